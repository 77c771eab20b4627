/-
  What is proved: whatever image, room, list and number rewindlaw.VmNews is called with, it answers true, and the image and the list read as before. Conditions: errors.errorType and rewindref.Fine read, when the call begins, as the program's own text lays them (the card ties that).
-/
import Derived.Test.YthbkklnahhdgcaaDoorCards
import Derived.Test.YthbkklnahhdgcaaDoorTie
import Derived.Test.YthbkklnahhdgcaaDoorCodeI
import Derived.Test.YthbkklnahhdgcaaDoorCodeJ
import Derived.Test.YthbkklnahhdgcaaDoorVmC
import Derived.Test.YthbkklnahhdgcaaDoorLaidEt
import Derived.Lib.LaidU8
import Derived.ChangeSame
import Derived.ChangeVars
import Derived.JoinedOf
import Derived.RowKit
import Derived.RowKitTokens
import Derived.Stop.Joined
import Derived.SevenTiedAt
import Derived.ProofKit
import Derived.OpenShut
import Derived.Carry
namespace Go.Proofs.YthbkklnahhdgcaaDoor.VmNewsCard
open Go Go.ChangeShapes Go.WideShapes Go.ChangeAt Go.RowKit

theorem own : ownKnob Tryd.prog.godebug = none := by kernel_rfl

theorem recInt : Tryd.prog.readableRec 3 = true := by kernel_rfl
theorem rowInt : (3 : TypeId) < Tryd.prog.types.size := of_decide_eq_true (by kernel_rfl)
theorem recInts : Tryd.prog.readableRec 52 = true := by kernel_rfl
theorem rowInts : (52 : TypeId) < Tryd.prog.types.size := of_decide_eq_true (by kernel_rfl)
section
variable {H : Type} {enc : TypeId × Value → H} {P : Program} {w : World} {base : Nat} {spare : Nat → Bool} {held : Bool}
theorem trodAll_five {t t' t'' t3 t4 : TypeId} {args : Array Value} {ds : List (DataW H)} {ps : List MemPlace} (h : DataW.TrodAll enc P w base spare held [t, t', t'', t3, t4] args.toList ds ps) :
    ∃ v v' v'' v3 v4 d d' d'' d3 d4 p p' p'' p3 p4, args = #[v, v', v'', v3, v4] ∧ ds = [d, d', d'', d3, d4] ∧ ps = p ++ p' ++ p'' ++ p3 ++ p4 ∧ DataW.Trod enc P w base spare held t v d p ∧ DataW.Trod enc P w base spare held t' v' d' p' ∧ DataW.Trod enc P w base spare held t'' v'' d'' p'' ∧ DataW.Trod enc P w base spare held t3 v3 d3 p3 ∧ DataW.Trod enc P w base spare held t4 v4 d4 p4 := by
  obtain ⟨v, vs, d, ds', p, q, hargs, rfl, rfl, hd, hrest⟩ := trodAll_cons h
  obtain ⟨v', vs', d', ds'', p', q', rfl, rfl, rfl, hd', hrest'⟩ := trodAll_cons hrest
  obtain ⟨v'', vs'', d'', ds3', p'', q'', rfl, rfl, rfl, hd'', hrest''⟩ := trodAll_cons hrest'
  obtain ⟨v3, vs3, d3, ds3, p3, q3, rfl, rfl, rfl, hd3, hrest3⟩ := trodAll_cons hrest''
  obtain ⟨v4, vs4, d4, ds4, p4, q4, rfl, rfl, rfl, hd4, hrest4⟩ := trodAll_cons hrest3
  obtain ⟨rfl, rfl, rfl⟩ := trodAll_nil hrest4
  exact ⟨v, v', v'', v3, v4, d, d', d'', d3, d4, p, p', p'', p3, p4, by cases args; simp_all, rfl, by simp, hd, hd', hd'', hd3, hd4⟩
theorem trodAll_mk5 {t t' t'' t3 t4 : TypeId} {v v' v'' v3 v4 : Value} {d d' d'' d3 d4 : DataW H} {p p' p'' p3 p4 : List MemPlace} (h : DataW.Trod enc P w base spare held t v d p) (h' : DataW.Trod enc P w base spare held t' v' d' p')
    (h'' : DataW.Trod enc P w base spare held t'' v'' d'' p'') (h3 : DataW.Trod enc P w base spare held t3 v3 d3 p3) (h4 : DataW.Trod enc P w base spare held t4 v4 d4 p4) : DataW.TrodAll enc P w base spare held [t, t', t'', t3, t4] [v, v', v'', v3, v4] [d, d', d'', d3, d4] (p ++ p' ++ p'' ++ p3 ++ p4) :=
  ⟨p, p' ++ (p'' ++ (p3 ++ p4)), h, trodAll_mk4 h' h'' h3 h4, by simp⟩
end

/-- What the plain condition gives a walk. -/
theorem fine {l : List (String × DataW Unit)} {W : World} (h : laidMet Tryd.prog l W) (hm : ("rewind/rewindref.Fine", Rows.laid_rewind_rewindref_Fine) ∈ l) :
    W.cell? ⟨0, 0, none⟩ = some (.int .i64 0) ∧ W.cell? ⟨0, 1, none⟩ = some (.int .i64 (-1)) := by
  obtain ⟨g, t, cs, fuel, p, h1, h2, h3, h4⟩ := Go.Lib.laidMet.reads h hm
  have hg : Tryd.prog.globalNamed "rewind/rewindref.Fine" = some 0 := by kernel_rfl
  obtain rfl := Option.some.inj (hg.symm.trans h1)
  obtain rfl : 48 = t := Option.some.inj ((show (Tryd.prog.globals[0]?).map (·.type) = some 48 by kernel_rfl).symm.trans h2)
  have hi : cs.toList = ([0, -1] : List Int).map fun z => Value.int .i64 z := Go.Lib.ints_of_struct (zs := [0, -1]) Tryd.underlying48 (by
    intro i f hf
    match i, hf with
    | 0, hf => cases hf; exact ⟨Tryd.underlying35, rfl, by kernel_rfl⟩
    | 1, hf => cases hf; exact ⟨Tryd.underlying3, rfl, by kernel_rfl⟩) (by kernel_rfl) h4
  obtain ⟨l⟩ := cs
  simp only [List.map_cons, List.map_nil] at hi
  subst hi
  have c0 := World.var?_cell hg h3 0
  have c1 := World.var?_cell hg h3 1
  exact ⟨by simpa using c0, by simpa using c1⟩

set_option maxRecDepth 100000 in
theorem contract (H : Type) (enc : TypeId × Value → H) (W : World) (base : Nat) (args : Array Value) (ds gs : List (DataW H)) (before : List MemPlace)
    (hval : ∀ (j : Nat) t v, Tryd.f5.params[j]? = some t → args[j]? = some v → Value.okWide Tryd.prog W .any base t v)
    (hW : DataW.Whole enc Tryd.prog Tryd.f5.params.toList Rows.vmNewsSpec.vars false W args.toList ds gs before)
    (hz : (DataW.weightsEach Tryd.prog (Tryd.f5.params.toList ++ Rows.vmNewsSpec.plain.varTypes Tryd.prog) (ds ++ gs)).all (· ≤ reachBytes) = true) (hL : laidMetH Tryd.prog Rows.vmNewsRow.laid W) :
    Calls Tryd.prog 5 args W fun e W' => ∃ v, e = .returned v ∧ Rows.vmNewsSpec.post enc Tryd.prog Tryd.f5 false true false false W args v W' := by
  have hW' := hW
  have hlt := hW.lt
  obtain ⟨p, q, hA0, hV, rfl, hfz, hnd⟩ := hW
  have hA : DataW.TrodAll enc Tryd.prog W 0 (fun _ => true) true Tryd.f5.params.toList args.toList ds p := hA0
  rw [Tryd.params5] at hA hval hz
  obtain ⟨v0, v1, v2, v3, v4, d0, d1, d2, d3, d4, p0, p1, p2, p3, p4, rfl, rfl, rfl, h0, h1, h2, h3, h4⟩ := trodAll_five hA
  obtain ⟨rfl, rfl⟩ := trodVars_none hV
  obtain ⟨cs, rfl, hsz⟩ := okWide_struct Tryd.underlying42 (hval 0 42 v0 rfl rfl)
  obtain ⟨n, rfl⟩ := okWide_int Tryd.underlying3 (hval 1 3 v1 rfl rfl)
  obtain ⟨o, rfl⟩ := okWide_int Tryd.underlying3 (hval 2 3 v2 rfl rfl)
  obtain ⟨a3, n3, c3, rfl⟩ := okWide_slice Tryd.underlying52 (hval 3 52 v3 rfl rfl)
  obtain ⟨i, rfl⟩ := okWide_int Tryd.underlying3 (hval 4 3 v4 rfl rfl)
  clear hA0
  simp only [List.append_nil] at hW' hlt
  obtain ⟨u0, f0⟩ := h0
  obtain ⟨u1, f1⟩ := h1
  obtain ⟨u2, f2⟩ := h2
  obtain ⟨u3, f3⟩ := h3
  obtain ⟨u4, f4⟩ := h4
  have hz' : ∀ (j : Nat) t d, ([42, 3, 3, 52, 3] : List TypeId)[j]? = some t → ([d0, d1, d2, d3, d4] : List (DataW H))[j]? = some d → ∀ k ∈ d.weights Tryd.prog t, k ≤ reachBytes := fun j t d ht hd k hk => by
    have := List.all_eq_true.1 hz k (DataW.weights_mem_each (j := j) (t := t) (d := d) ht hd k hk)
    simpa using this
  obtain ⟨m, hm, hok, hin⟩ := CodeO.open_image u0 _ _ f0 (hz' 0 _ _ rfl rfl)
  obtain ⟨l⟩ := cs
  obtain rfl : l = m.vals := hm
  obtain ⟨S, li, hSv, hS, _, _⟩ := CodeO.open_rows (fun n : Int => [Value.int .i64 n]) CodeO.i64 Tryd.underlying52 (sz := 1) (by kernel_rfl) (by decide) (by rw [show Tryd.prog.bytesOf 3 = 8 by kernel_rfl]; decide) f3 (hz' 3 _ _ rfl rfl) CodeO.open_num
  have hSn : S.n = li.length := by have := hS.len; rwa [List.length_map] at this
  unfold CodeR.Sl.val at hSv
  obtain ⟨rfl, rfl, rfl⟩ : a3 = S.oa ∧ n3 = S.n ∧ c3 = S.c := by injection hSv with h1 h2 h3; exact ⟨h1, h2, h3⟩
  have hL2 : laidMet Tryd.prog [("rewind/rewindref.Fine", Rows.laid_rewind_rewindref_Fine)] W ∧ handlesMet Tryd.prog [("errors.errorType", Rows.laid_errors_errorType)] W := hL
  have hg : ErrC.EtIs W := LaidEt.handle hL2.2 (List.mem_singleton.2 rfl)
  obtain ⟨hf0, hf1⟩ := fine hL2.1 (List.mem_singleton.2 rfl)
  have hlaw := VmC.law (fun mb mo m w h1 h2 h3 => CodeI.Check_any mb mo m w h1 h2 h3) (fun mb mo m w h1 h2 h3 h4 h5 => CodeJ.ImageCheck_any mb mo m w h1 h2 h3 h4 h5) m n o i S li W hin hok hS hg hf0 hf1
  rw [← hSn] at hlaw
  refine hlaw.mono fun e W' ⟨he, hb⟩ => ?_
  subst he
  have hsame : ∀ x ∈ p0 ++ p1 ++ p2 ++ p3 ++ p4, W.sameAt W' x := fun x hx => hb.same (hlt x hx)
  have hold : ∀ x ∈ p0 ++ p1 ++ p2 ++ p3 ++ p4, decide (x.block < W.heap.size) = true := fun x hx => decide_eq_true (hlt x hx)
  refine ⟨_, rfl, _, _, _, [], p0 ++ p1 ++ p2 ++ p3 ++ p4, [], hW', ?_, ?_, ?_, hb.frame _, fun h => by cases h⟩
  · exact trodAll_mk1 (shut_bool Tryd.underlying4 true)
  · have key : ∀ {t : TypeId} {u : Nat} {cs : List Value} {x : DataW H × List MemPlace}, Tryd.prog.readableRec t = true → t < Tryd.prog.types.size → DataW.trod enc Tryd.prog W 0 (fun _ => true) true u t cs = some x → (∀ y ∈ x.2, y ∈ p0 ++ p1 ++ p2 ++ p3 ++ p4) → DataW.trod enc Tryd.prog W' 0 (fun b => decide (b < W.heap.size)) true u t cs = some x := fun hr hw hf hsub =>
      CodeO.stays hr hw hf (fun x hx => hsame x (hsub x hx)) (fun x hx => hold x (hsub x hx))
    exact trodAll_mk5 ⟨u0, key CodeO.recImage CodeO.rowImage f0 (fun y hy => by simp only [List.mem_append]; exact Or.inl (Or.inl (Or.inl (Or.inl hy))))⟩ ⟨u1, key recInt rowInt f1 (fun y hy => by simp only [List.mem_append]; exact Or.inl (Or.inl (Or.inl (Or.inr hy))))⟩
      ⟨u2, key recInt rowInt f2 (fun y hy => by simp only [List.mem_append]; exact Or.inl (Or.inl (Or.inr hy)))⟩ ⟨u3, key recInts rowInts f3 (fun y hy => by simp only [List.mem_append]; exact Or.inl (Or.inr hy))⟩ ⟨u4, key recInt rowInt f4 (fun y hy => by simp only [List.mem_append]; exact Or.inr hy)⟩
  · rfl

/-- A world that meets the conditions: the settled one, the variables' cells laid. -/
noncomputable def laidWorld (os : Os) : World :=
  { World.holding Tryd.prog os ⟨#[], #[], []⟩ with heap := (((World.holding Tryd.prog os ⟨#[], #[], []⟩).heap.modify 1 (fun
      | .cells _ t frozen => .cells #[.iface 256 (.agg #[.pointer (some ⟨5, 24, none⟩)])] t frozen
      | o => o)).modify 0 (fun
      | .cells _ t frozen => .cells #[.int .i64 0, .int .i64 (-1)] t frozen
      | o => o)) }
theorem laid_met (os : Os) (args : Array Value) : laidMetH Tryd.prog Rows.vmNewsRow.laid ((laidWorld os).forCall (fun _ _ => 0) ⟨#[], args, []⟩).memory :=
  laidMetH_of_parts (laidMet_of_run' 8 (by kernel_rfl) (by kernel_rfl)) (by kernel_rfl)

set_option maxRecDepth 100000 in
theorem lifted (os : Os) (started : os.Started) (H : Type) (enc : TypeId × Value → H) :
    ReturnsInHanded {} Tryd.checked os 5 .any (fun w args => (Rows.vmNewsSpec.pre enc Tryd.prog Tryd.f5 [] false w args ∧ laidMetH Tryd.prog Rows.vmNewsRow.laid w) ∧ sizedMet enc Tryd.prog Tryd.f5 (OpenSpec.ofChange Rows.vmNewsSpec) false w args)
      (Rows.vmNewsSpec.post enc Tryd.prog Tryd.f5 false true false false) := by
  refine returnsInHanded_of_change_and (C := Tryd.checked) (X := fun w _ => laidMetH Tryd.prog Rows.vmNewsRow.laid w) (fun _ _ _ hh h => h.of_heap hh) own started (by kernel_rfl) Tryd.func5
    (ChangeSpec.witness_at (enc := enc) (C := Tryd.checked) (os := os) (X := fun w _ => laidMetH Tryd.prog Rows.vmNewsRow.laid w) false (laidWorld os) #[.agg #[.slice none 0 0, .slice none 0 0, .slice none 0 0], .int .i64 0, .int .i64 0, .slice none 0 0, .int .i64 0] 8 rfl (by kernel_rfl) (by kernel_rfl) (by kernel_rfl) (by kernel_rfl) (by kernel_rfl) (laid_met os _)) ?_
  intro W base args ds gs before hval0 hW _ hz hL _
  exact contract H enc W base args ds gs before hval0 hW hz hL

theorem said : Rows.VmNewsSaid :=
  OpenClaim.holds_of_wide 5 Tryd.f5 rfl rfl rfl rfl rfl rfl rfl ⟨rfl, rfl, rfl, rfl, rfl⟩ rfl rfl rfl rfl rfl (by kernel_rfl) Tryd.func5 (by kernel_rfl)
    (of_decide_eq_true (by kernel_rfl)) (by unfold Func.isWrapper; rw [if_neg (of_decide_eq_false (by kernel_rfl))]; exact ⟨rfl, rfl⟩)
    (fun os started H enc _ => lifted os started H enc)

theorem plain (f : FuncId) (fn : Func) (hf : Tryd.pinned.checked.prog.funcNamed "rewind/rewindlaw.VmNews" = some f) (hfn : Tryd.pinned.checked.prog.funcs[f]? = some fn) :
    true = Tryd.pinned.checked.prog.looks [] ∧ ∀ (j : Nat) t, fn.params[j]? = some t → Tryd.pinned.checked.prog.wantsStandIn t = false := by
  obtain rfl : f = 5 := Option.some.inj ((show Tryd.prog.funcNamed "rewind/rewindlaw.VmNews" = some 5 by kernel_rfl).symm.trans hf) |>.symm
  obtain rfl : fn = Tryd.f5 := (Option.some.inj (Tryd.func5.symm.trans hfn)).symm
  refine ⟨by kernel_rfl, fun j t ht => ?_⟩
  rw [Tryd.params5] at ht
  have h := Array.mem_of_getElem? ht
  have h3 : t = 42 ∨ t = 3 ∨ t = 3 ∨ t = 52 ∨ t = 3 := by simpa using h
  rcases h3 with rfl | rfl | rfl | rfl | rfl
  · exact (show Tryd.prog.wantsStandIn 42 = false by kernel_rfl)
  · exact (show Tryd.prog.wantsStandIn 3 = false by kernel_rfl)
  · exact (show Tryd.prog.wantsStandIn 3 = false by kernel_rfl)
  · exact (show Tryd.prog.wantsStandIn 52 = false by kernel_rfl)
  · exact (show Tryd.prog.wantsStandIn 3 = false by kernel_rfl)

theorem card : Rows.VmNewsCardSaid :=
  Claim7.holds_tied_plain_at .later [] _ _ _ _ said (fun _ h => by cases h) (by kernel_rfl) (fun _ h => by cases h) vmNews_row_tie rfl ⟨rfl, rfl⟩ (by kernel_rfl) rfl plain (by kernel_rfl)
#print axioms card
end Go.Proofs.YthbkklnahhdgcaaDoor.VmNewsCard
