/-
  What is proved: whatever bytes rewindlaw.CodeDecodes is called with, it answers true, and the bytes read as before. Conditions: errors.errorType and rewindref.Fine read, when the call begins, as the program's own text lays them (the card ties that).
-/
import Derived.Test.YthbkklnahhdgcaaDoorCards
import Derived.Test.YthbkklnahhdgcaaDoorTie
import Derived.Test.YthbkklnahhdgcaaDoorDDecK
import Derived.Test.YthbkklnahhdgcaaDoorDCodeO
import Derived.Test.YthbkklnahhdgcaaDoorDLaidEt
import Derived.Lib.LaidU8
import Derived.ChangeSame
import Derived.ChangeVars
import Derived.JoinedOf
import Derived.RowKit
import Derived.RowKitTokens
import Derived.Stop.Joined
import Derived.SevenTiedAt
import Derived.ProofKit
import Derived.OpenShut
namespace Go.Proofs.YthbkklnahhdgcaaDoor.CodeDecodesCard
open Go Go.ChangeShapes Go.WideShapes Go.ChangeAt Go.RowKit

theorem own : ownKnob Tryd.prog.godebug = none := by kernel_rfl

/-- What the plain condition gives a walk. -/
theorem fine {l : List (String × DataW Unit)} {W : World} (h : laidMet Tryd.prog l W) (hm : ("rewind/rewindref.Fine", Rows.laid_rewind_rewindref_Fine) ∈ l) :
    W.cell? ⟨0, 0, none⟩ = some (.int .i64 0) ∧ W.cell? ⟨0, 1, none⟩ = some (.int .i64 (-1)) := by
  obtain ⟨g, t, cs, fuel, p, h1, h2, h3, h4⟩ := Go.Lib.laidMet.reads h hm
  have hg : Tryd.prog.globalNamed "rewind/rewindref.Fine" = some 0 := by kernel_rfl
  obtain rfl := Option.some.inj (hg.symm.trans h1)
  obtain rfl : 48 = t := Option.some.inj ((show (Tryd.prog.globals[0]?).map (·.type) = some 48 by kernel_rfl).symm.trans h2)
  have hi : cs.toList = ([0, -1] : List Int).map fun z => Value.int .i64 z := Go.Lib.ints_of_struct (zs := [0, -1]) Tryd.underlying48 (by
    intro i f hf
    match i, hf with
    | 0, hf => cases hf; exact ⟨Tryd.underlying35, rfl, by kernel_rfl⟩
    | 1, hf => cases hf; exact ⟨Tryd.underlying3, rfl, by kernel_rfl⟩) (by kernel_rfl) h4
  obtain ⟨l⟩ := cs
  simp only [List.map_cons, List.map_nil] at hi
  subst hi
  have c0 := World.var?_cell hg h3 0
  have c1 := World.var?_cell hg h3 1
  exact ⟨by simpa using c0, by simpa using c1⟩

theorem recBytes : Tryd.prog.readableRec 64 = true := by kernel_rfl
theorem rowBytes : (64 : TypeId) < Tryd.prog.types.size := of_decide_eq_true (by kernel_rfl)
theorem bv_of {z : Int} (h : 0 ≤ z ∧ z ≤ 255) : Value.int .u8 z = EncA.bv (UInt8.ofNat z.toNat) := by
  unfold EncA.bv
  rw [UInt8.toNat_ofNat', Nat.mod_eq_of_lt (by omega), Int.toNat_of_nonneg h.1]
/-- An argument of type []byte, opened. -/
theorem open_bytesL {H : Type} {enc : TypeId × Value → H} {W : World} {a0 : Option Addr} {len cap : Nat} {d0 : DataW H} {p : List MemPlace} (h0 : DataW.Trod enc Tryd.prog W 0 (fun _ => true) true 64 (.slice a0 len cap) d0 p) :
    ∃ L : List UInt8, len = L.length ∧ L.length ≤ cap ∧ ∀ (k : Nat) (x : UInt8), L[k]? = some x → ∃ b o, a0 = some ⟨b, o, none⟩ ∧ W.cell? ⟨b, o + k, none⟩ = some (EncA.bv x) := by
  obtain ⟨fuel, hf⟩ := h0
  rcases open_ints Tryd.underlying64 Tryd.underlying5 (by kernel_rfl) hf with ⟨hcs, hx⟩ | ⟨a, len', cap', zs, hcs, _, hl, hm, hz, hx, hcell, hwz⟩
  · simp [Value.cells] at hcs
    obtain ⟨rfl, rfl, rfl⟩ := hcs
    exact ⟨[], rfl, Nat.le_refl _, fun k x h => by simp at h⟩
  · simp [Value.cells] at hcs
    obtain ⟨rfl, rfl, rfl⟩ := hcs
    simp only [if_true] at hz
    have hlen : ((zs.take len).map fun n => UInt8.ofNat n.toNat).length = len := by simp; omega
    refine ⟨(zs.take len).map fun n => UInt8.ofNat n.toNat, hlen.symm, by omega, fun k x hk => ?_⟩
    have hkl : k < len := by
      have := (List.getElem?_eq_some_iff.mp hk).1
      omega
    obtain ⟨ab, ao, spot⟩ := a
    have hspot : spot = none := by simpa [Addr.add] using World.cell?_spot (hcell 0 (by omega))
    subst hspot
    refine ⟨ab, ao, rfl, ?_⟩
    have hcj := hcell k (by omega)
    have hzk : zs[k]? = some zs[k] := List.getElem?_eq_getElem (by omega)
    have hg : zs.getD k 0 = zs[k] := by rw [List.getD_eq_getElem?_getD, hzk]; rfl
    rw [Addr.add_lit, hg, bv_of (bounds_u8 (hwz _ (List.getElem_mem (by omega))))] at hcj
    rw [hcj]
    rw [List.getElem?_map, List.getElem?_take_of_lt hkl, hzk] at hk
    cases hk
    rfl
set_option maxRecDepth 100000 in
theorem contract (H : Type) (enc : TypeId × Value → H) (W : World) (base : Nat) (args : Array Value) (ds gs : List (DataW H)) (before : List MemPlace)
    (hval : ∀ (j : Nat) t v, Tryd.f7.params[j]? = some t → args[j]? = some v → Value.okWide Tryd.prog W .any base t v)
    (hW : DataW.Whole enc Tryd.prog Tryd.f7.params.toList Rows.codeDecodesSpec.vars false W args.toList ds gs before)
    (hz : (DataW.weightsEach Tryd.prog (Tryd.f7.params.toList ++ Rows.codeDecodesSpec.plain.varTypes Tryd.prog) (ds ++ gs)).all (· ≤ reachBytes) = true) (hL : laidMetH Tryd.prog Rows.codeDecodesRow.laid W) :
    Calls Tryd.prog 7 args W fun e W' => ∃ v, e = .returned v ∧ Rows.codeDecodesSpec.post enc Tryd.prog Tryd.f7 false true false false W args v W' := by
  have hW' := hW
  have hlt := hW.lt
  obtain ⟨p, q, hA0, hV, rfl, hfz, hnd⟩ := hW
  have hA : DataW.TrodAll enc Tryd.prog W 0 (fun _ => true) true Tryd.f7.params.toList args.toList ds p := hA0
  rw [Tryd.params7] at hA hval hz
  obtain ⟨v0, d0, rfl, rfl, h0⟩ := trodAll_one hA
  obtain ⟨rfl, rfl⟩ := trodVars_none hV
  obtain ⟨a1, len, cap, rfl⟩ := okWide_slice Tryd.underlying64 (hval 0 64 v0 rfl rfl)
  clear hA0
  simp only [List.append_nil] at hW' hlt
  obtain ⟨fuel, hf⟩ := h0
  obtain ⟨L, rfl, hcap, hrow⟩ := open_bytesL ⟨fuel, hf⟩
  have hL2 : laidMet Tryd.prog [("rewind/rewindref.Fine", Rows.laid_rewind_rewindref_Fine)] W ∧ handlesMet Tryd.prog [("errors.errorType", Rows.laid_errors_errorType)] W := hL
  have hg : ErrC.EtIs W := LaidEt.handle hL2.2 (List.mem_singleton.2 rfl)
  obtain ⟨hf0, hf1⟩ := fine hL2.1 (List.mem_singleton.2 rfl)
  refine (DecK.law a1 cap L W hcap hrow hg hf0 hf1).mono fun e W' ⟨he, hb⟩ => ?_
  subst he
  refine ⟨_, rfl, _, _, _, [], p, [], hW', ?_, ?_, ?_, hb.frame _, fun h => by cases h⟩
  · exact trodAll_mk1 (shut_bool Tryd.underlying4 true)
  · refine trodAll_mk1 ⟨fuel, ?_⟩
    exact CodeO.stays recBytes rowBytes hf (fun x hx => hb.same (hlt x hx)) (fun x hx => decide_eq_true (hlt x hx))
  · rfl

/-- A world that meets the conditions: the settled one, the variables' cells laid. -/
noncomputable def laidWorld (os : Os) : World :=
  { World.holding Tryd.prog os ⟨#[], #[], []⟩ with heap := (((World.holding Tryd.prog os ⟨#[], #[], []⟩).heap.modify 1 (fun
      | .cells _ t frozen => .cells #[.iface 256 (.agg #[.pointer (some ⟨5, 24, none⟩)])] t frozen
      | o => o)).modify 0 (fun
      | .cells _ t frozen => .cells #[.int .i64 0, .int .i64 (-1)] t frozen
      | o => o)) }
theorem laid_met (os : Os) (args : Array Value) : laidMetH Tryd.prog Rows.codeDecodesRow.laid ((laidWorld os).forCall (fun _ _ => 0) ⟨#[], args, []⟩).memory :=
  laidMetH_of_parts (laidMet_of_run' 8 (by kernel_rfl) (by kernel_rfl)) (by kernel_rfl)

set_option maxRecDepth 100000 in
theorem lifted (os : Os) (started : os.Started) (H : Type) (enc : TypeId × Value → H) :
    ReturnsInHanded {} Tryd.checked os 7 .any (fun w args => (Rows.codeDecodesSpec.pre enc Tryd.prog Tryd.f7 [] false w args ∧ laidMetH Tryd.prog Rows.codeDecodesRow.laid w) ∧ sizedMet enc Tryd.prog Tryd.f7 (OpenSpec.ofChange Rows.codeDecodesSpec) false w args)
      (Rows.codeDecodesSpec.post enc Tryd.prog Tryd.f7 false true false false) := by
  refine returnsInHanded_of_change_and (C := Tryd.checked) (X := fun w _ => laidMetH Tryd.prog Rows.codeDecodesRow.laid w) (fun _ _ _ hh h => h.of_heap hh) own started (by kernel_rfl) Tryd.func7
    (ChangeSpec.witness_at (enc := enc) (C := Tryd.checked) (os := os) (X := fun w _ => laidMetH Tryd.prog Rows.codeDecodesRow.laid w) false (laidWorld os) #[.slice none 0 0] 8 rfl (by kernel_rfl) (by kernel_rfl) (by kernel_rfl) (by kernel_rfl) (by kernel_rfl) (laid_met os _)) ?_
  intro W base args ds gs before hval0 hW _ hz hL _
  exact contract H enc W base args ds gs before hval0 hW hz hL

theorem said : Rows.CodeDecodesSaid :=
  OpenClaim.holds_of_wide 7 Tryd.f7 rfl rfl rfl rfl rfl rfl rfl ⟨rfl, rfl, rfl, rfl, rfl⟩ rfl rfl rfl rfl rfl (by kernel_rfl) Tryd.func7 (by kernel_rfl)
    (of_decide_eq_true (by kernel_rfl)) (by unfold Func.isWrapper; rw [if_neg (of_decide_eq_false (by kernel_rfl))]; exact ⟨rfl, rfl⟩)
    (fun os started H enc _ => lifted os started H enc)

theorem plain (f : FuncId) (fn : Func) (hf : Tryd.pinned.checked.prog.funcNamed "rewind/rewindlaw.CodeDecodes" = some f) (hfn : Tryd.pinned.checked.prog.funcs[f]? = some fn) :
    true = Tryd.pinned.checked.prog.looks [] ∧ ∀ (j : Nat) t, fn.params[j]? = some t → Tryd.pinned.checked.prog.wantsStandIn t = false := by
  obtain rfl : f = 7 := Option.some.inj ((show Tryd.prog.funcNamed "rewind/rewindlaw.CodeDecodes" = some 7 by kernel_rfl).symm.trans hf) |>.symm
  obtain rfl : fn = Tryd.f7 := (Option.some.inj (Tryd.func7.symm.trans hfn)).symm
  refine ⟨by kernel_rfl, fun j t ht => ?_⟩
  rw [Tryd.params7] at ht
  have h := Array.mem_of_getElem? ht
  have h3 : t = 64 := by simpa using h
  subst h3
  exact (show Tryd.prog.wantsStandIn 64 = false by kernel_rfl)

theorem card : Rows.CodeDecodesCardSaid :=
  Claim7.holds_tied_plain_at .later [] _ _ _ _ said (fun _ h => by cases h) (by kernel_rfl) (fun _ h => by cases h) codeDecodes_row_tie rfl ⟨rfl, rfl⟩ (by kernel_rfl) rfl plain (by kernel_rfl)
#print axioms card
end Go.Proofs.YthbkklnahhdgcaaDoor.CodeDecodesCard
