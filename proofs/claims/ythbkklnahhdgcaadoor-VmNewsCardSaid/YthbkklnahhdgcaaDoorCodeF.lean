/-
  The contract of the document's function's closure come.
-/
import Derived.Test.YthbkklnahhdgcaaDoorCodeD
import Derived.Test.YthbkklnahhdgcaaDoorCodeEa
import Derived.Maps.OwnOps
import Derived.Maps.OwnSet
namespace Go.Proofs.YthbkklnahhdgcaaDoor.CodeF
open Go Go.Proofs Go.RowKit Go.Maps Lib CodeR CodeA CodeB CodeP CodeD

/-- The map holds the labels. -/
def MR (D : DataW Unit) (deep : List Int) : Prop :=
  IsMap D ∧ ∀ i : Nat, i < deep.length → Maps.has D (.int .i64 (i : Int)) = decide (0 ≤ deep.getD i 0) ∧ (0 ≤ deep.getD i 0 → D.atKey (.int .i64 (i : Int)) (.lit (.int .i64 0)) = .lit (.int .i64 (deep.getD i 0)))
/-- What the document's come sees: the boxes of f, good, many; the map. -/
structure RS (w : World) (lo fx gx mx mb : Nat) (f : Fc) (deep : List Int) (e : Int) : Prop where
  fbox : w.heap[fx]? = some (.cells f.vals.toArray 130 (0, 0))
  gbox : w.heap[gx]? = some (.cells #[.bool (decide (e = 0))] 4 (0, 0))
  mbox : w.heap[mx]? = some (.cells #[.map (some mb)] 96 (0, 0))
  map : ∃ n D, w.ownsMap Tryd.prog 3 (plainElem Tryd.prog 3) mb n D ∧ n + unl deep ≤ deep.length ∧ MR D deep
  high : lo ≤ fx ∧ lo ≤ gx ∧ lo ≤ mx ∧ lo ≤ mb
  fg : fx ≠ gx
  fm : fx ≠ mb
  gm : gx ≠ mb
  gx' : gx ≠ mx
  mm : mx ≠ mb

theorem ownsMap_same {w w' : World} {P : Program} {k : TypeId} {R : Value → Option (DataW Unit × List MemPlace)} {b n : Nat} {D : DataW Unit} (h : w.ownsMap P k R b n D) (e : w'.heap[b]? = w.heap[b]?) : w'.ownsMap P k R b n D := by
  obtain ⟨es, clock, hb, F, hs, hD⟩ := h
  exact ⟨es, clock, e.trans hb, F, hs, hD⟩
theorem RS.size {w : World} {lo fx gx mx mb : Nat} {f : Fc} {deep : List Int} {e : Int} (S : RS w lo fx gx mx mb f deep e) : fx < w.heap.size ∧ gx < w.heap.size ∧ mx < w.heap.size ∧ mb < w.heap.size := by
  obtain ⟨n, D, h, _⟩ := S.map
  exact ⟨lt_of_block S.fbox, lt_of_block S.gbox, lt_of_block S.mbox, h.lt⟩
theorem RS.keep {w w' : World} {lo fx gx mx mb : Nat} {f : Fc} {deep : List Int} {e : Int} (S : RS w lo fx gx mx mb f deep e) (hb : ∀ k, k < w.heap.size → w'.heap[k]? = w.heap[k]?) : RS w' lo fx gx mx mb f deep e := by
  obtain ⟨h1, h2, h3, h4⟩ := S.size
  obtain ⟨n, D, h, hn⟩ := S.map
  exact ⟨(hb _ h1).trans S.fbox, (hb _ h2).trans S.gbox, (hb _ h3).trans S.mbox, ⟨n, D, ownsMap_same h (hb _ h4), hn⟩, S.high, S.fg, S.fm, S.gm, S.gx', S.mm⟩
theorem RS.below {w w' : World} {lo fx gx mx mb : Nat} {f : Fc} {deep : List Int} {e : Int} (S : RS w lo fx gx mx mb f deep e) (hb : Below w.heap.size w w') : RS w' lo fx gx mx mb f deep e := S.keep fun k hk => hb.block k hk
/-- What come writes: good's box and the map. -/
def Gs (gx mb : Nat) (k : Nat) : Prop := k = gx ∨ k = mb
theorem RS.bad {w : World} {lo fx gx mx mb : Nat} {f : Fc} {deep : List Int} {e : Int} (S : RS w lo fx gx mx mb f deep e) : RS (w.setCell ⟨gx, 0, none⟩ (.bool false)) lo fx gx mx mb f deep 3 := by
  have hk : ∀ k, k ≠ gx → (w.setCell ⟨gx, 0, none⟩ (.bool false)).heap[k]? = w.heap[k]? := fun k hk => block_setCell_ne hk
  obtain ⟨n, D, h, hn⟩ := S.map
  exact ⟨(hk _ S.fg).trans S.fbox, one_setCell S.gbox, (hk _ S.gx'.symm).trans S.mbox, ⟨n, D, ownsMap_same h (hk _ S.gm.symm), hn⟩, S.high, S.fg, S.fm, S.gm, S.gx', S.mm⟩
theorem RS.badT {w : World} {gx mb : Nat} (u : Value) : Turned (Gs gx mb) w (w.setCell ⟨gx, 0, none⟩ u) := (Turned.refl _ w).setCell (Or.inl (Or.inl rfl)) _

theorem lit_ne {i j : Nat} (h : i ≠ j) : (Lit.int .i64 (i : Int)) ≠ .int .i64 (j : Int) := by
  intro hc
  injection hc with _ h2
  omega
theorem MR.put {D : DataW Unit} {deep : List Int} {p : Nat} {n : Int} (h : MR D deep) (hp : p < deep.length) (h0 : 0 ≤ n) : MR (D.put (.int .i64 (p : Int)) (.lit (.int .i64 n))) (deep.set p n) := by
  obtain ⟨hm, h⟩ := h
  refine ⟨hm.put _ _, ?_⟩
  intro i hi
  rw [List.length_set] at hi
  have hk : WideAt.IsKeyLit (.int .i64 (p : Int)) := by first | trivial | decide | (simp [WideAt.IsKeyLit])
  by_cases hip : i = p
  · subst hip
    have hg : (deep.set i n).getD i 0 = n := by rw [List.getD_eq_getElem?_getD, List.getElem?_set_self hp]; rfl
    rw [hg, has_put_same hm hk, atKey_put_same hm hk]
    exact ⟨by simp [h0], fun _ => rfl⟩
  · have hg : (deep.set p n).getD i 0 = deep.getD i 0 := by rw [List.getD_eq_getElem?_getD, List.getElem?_set_ne (Ne.symm hip), List.getD_eq_getElem?_getD]
    rw [hg, has_put_other (lit_ne hip), atKey_put_other (lit_ne hip)]
    exact h i hi
theorem lit_inj {a b : Int} (h : (DataW.lit (.int .i64 a) : DataW Unit) = .lit (.int .i64 b)) : a = b := by
  injection h with h1
  injection h1 with _ h2
theorem zeroInt (w : World) : (zeroValue 3).run Tryd.prog w = .ok (.int .i64 0) w := by kernel_rfl

theorem fbox_cell {w : World} {fx : Nat} {f : Fc} {t : TypeId} (h : w.heap[fx]? = some (.cells f.vals.toArray t (0, 0))) : Row w fx 0 f.vals := by
  intro k v hv
  refine cell_of_block h ?_
  rw [Nat.zero_add]
  simpa using hv

section
variable (w : World) (lo fx gx mx mb : Nat) (f : Fc) (deep : List Int) (e : Int) (p : Nat) (n : Int)

set_option maxRecDepth 100000 in
set_option maxHeartbeats 2000000 in
theorem rcome_bad (S : RS w lo fx gx mx mb f deep e) (hn : f.codeS.n = f.code.length) (hd : deep.length = f.code.length) (h : deep.length ≤ p ∨ 200 < n) :
    Calls Tryd.prog 87 #[.int .i64 (p : Int), .int .i64 n, .pointer (some ⟨fx, 0, none⟩), .pointer (some ⟨gx, 0, none⟩), .pointer (some ⟨mx, 0, none⟩)] w
      fun r w' => r = .returned (.bool false) ∧ w' = w.setCell ⟨gx, 0, none⟩ (.bool false) := by
  have hfc : w.cell? ⟨fx, 3, none⟩ = some f.codeS.val := by simpa using fbox_cell S.fbox 3 _ rfl
  unfold Sl.val at hfc
  rw [hn] at hfc
  have hgx := cell_of_one S.gbox
  have hgz := free_of_one S.gbox
  rw [hd] at h
  clear S
  rcases Nat.lt_or_ge p f.code.length with h0 | h0
  · have h1 : 200 < n := by omega
    have hd0 : decide ((f.code.length : Int) ≤ (p : Int)) = false := by simp; omega
    have hd1 : decide (200 < n) = true := by simp; omega
    go_enter Tryd.func87, Tryd.ntmps87
    go_wp2
    go_ret
    exact ⟨rfl, rfl⟩
  · have hd0 : decide ((f.code.length : Int) ≤ (p : Int)) = true := by simp; omega
    go_enter Tryd.func87, Tryd.ntmps87
    go_wp2
    go_ret
    exact ⟨rfl, rfl⟩

set_option maxRecDepth 100000 in
set_option maxHeartbeats 2000000 in
theorem rcome_old (S : RS w lo fx gx mx mb f deep e) (hn : f.codeS.n = f.code.length) (hd : deep.length = f.code.length) (hlim : deep.length ≤ 5000) (h : ¬ (deep.length ≤ p ∨ 200 < n)) (h2 : ¬ deep.getD p 0 < 0) :
    Calls Tryd.prog 87 #[.int .i64 (p : Int), .int .i64 n, .pointer (some ⟨fx, 0, none⟩), .pointer (some ⟨gx, 0, none⟩), .pointer (some ⟨mx, 0, none⟩)] w
      fun r w' => r = .returned (.bool false) ∧ w' = if deep.getD p 0 = n then w else w.setCell ⟨gx, 0, none⟩ (.bool false) := by
  have hfc : w.cell? ⟨fx, 3, none⟩ = some f.codeS.val := by simpa using fbox_cell S.fbox 3 _ rfl
  unfold Sl.val at hfc
  rw [hn] at hfc
  have hgx := cell_of_one S.gbox
  have hgz := free_of_one S.gbox
  have hmx := cell_of_one S.mbox
  obtain ⟨nm, D, hown, hroom, _, hMR⟩ := S.map
  obtain ⟨hp, hd0, hd1⟩ := come_place h
  obtain ⟨hh, ha⟩ := hMR p hp
  have hh' : Maps.has D (.int .i64 (p : Int)) = true := by rw [hh]; first | exact decide_eq_true (by omega) | exact decide_eq_false (by omega)
  have ha' := ha (by omega)
  have hzero := zeroInt
  have hwp : (Lit.int .i64 (p : Int)).wf = true := WalkArith.wf_i64 (by omega)
  rw [hd] at hd0
  generalize deep.getD p 0 = u at *
  clear S ha hh hMR h
  by_cases h3 : u = n
  · subst h3
    rw [if_pos rfl]
    have hne : (u != u) = false := by simp
    go_enter Tryd.func87, Tryd.ntmps87
    go_wp2_with (at_lookup; refine wpList_lookup_own_ok_int _ rfl _ _ 96 rfl 3 3 .i64 (int_keyed Tryd.underlying3) Tryd.underlying96 Tryd.underlying3 (hzero _) mb nm D rfl hown _ (.int .i64 (p : Int)) rfl (keyOf_int_mk Tryd.underlying3 hwp) ?_; intro c hat _; rw [ha'] at hat; obtain rfl := lit_inj hat; rw [hh']; clear hat)
    go_ret
    exact ⟨rfl, rfl⟩
  · rw [if_neg h3]
    have hne : (u != n) = true := by simp; omega
    go_enter Tryd.func87, Tryd.ntmps87
    go_wp2_with (at_lookup; refine wpList_lookup_own_ok_int _ rfl _ _ 96 rfl 3 3 .i64 (int_keyed Tryd.underlying3) Tryd.underlying96 Tryd.underlying3 (hzero _) mb nm D rfl hown _ (.int .i64 (p : Int)) rfl (keyOf_int_mk Tryd.underlying3 hwp) ?_; intro c hat _; rw [ha'] at hat; obtain rfl := lit_inj hat; rw [hh']; clear hat)
    go_ret
    exact ⟨rfl, rfl⟩

set_option maxRecDepth 100000 in
set_option maxHeartbeats 2000000 in
theorem rcome_new (S : RS w lo fx gx mx mb f deep e) (hn : f.codeS.n = f.code.length) (hd : deep.length = f.code.length) (hlim : deep.length ≤ 5000) (h : ¬ (deep.length ≤ p ∨ 200 < n)) (hn0 : 0 ≤ n) (h2 : deep.getD p 0 < 0) :
    Calls Tryd.prog 87 #[.int .i64 (p : Int), .int .i64 n, .pointer (some ⟨fx, 0, none⟩), .pointer (some ⟨gx, 0, none⟩), .pointer (some ⟨mx, 0, none⟩)] w
      fun r w' => r = .returned (.bool true) ∧ RS w' lo fx gx mx mb f (deep.set p n) e ∧ Turned (Gs gx mb) w w' := by
  have hfc : w.cell? ⟨fx, 3, none⟩ = some f.codeS.val := by simpa using fbox_cell S.fbox 3 _ rfl
  unfold Sl.val at hfc
  rw [hn] at hfc
  have hmx := cell_of_one S.mbox
  obtain ⟨nm, D, hown, hroom, hMR⟩ := S.map
  obtain ⟨hp, hd0, hd1⟩ := come_place h
  obtain ⟨hh, _⟩ := hMR.2 p hp
  have hh' : Maps.has D (.int .i64 (p : Int)) = false := by rw [hh]; first | exact decide_eq_true (by omega) | exact decide_eq_false (by omega)
  have hzero := zeroInt
  have hunl := unl_come (deep := deep) (e := e) (p := p) hn0
  have hN : comeN deep p n = true := by
    unfold comeN
    simp only [Bool.and_eq_true, Bool.not_eq_true', Bool.or_eq_false_iff, decide_eq_false_iff_not, decide_eq_true_eq]
    exact ⟨⟨fun h' => h (Or.inl h'), fun h' => h (Or.inr h')⟩, h2⟩
  have hD : comeD deep e p n = (deep.set p n, e) := by unfold comeD; rw [if_neg h, if_pos h2]
  rw [hN, hD] at hunl
  simp only [if_true] at hunl
  have hMR' := hMR.put hp hn0
  have hC := S
  have hnl : n ≤ 200 := by omega
  have hwp : (Lit.int .i64 (p : Int)).wf = true := WalkArith.wf_i64 (by omega)
  have hwn : (Lit.int .i64 n).wf = true := WalkArith.wf_i64 (by omega)
  have hnm : nm < maxLen := by unfold maxLen; omega
  rw [hd] at hd0
  clear S hh hMR h hD hN
  go_enter Tryd.func87, Tryd.ntmps87
  go_wp2_with (first | (at_lookup; refine wpList_lookup_own_ok_int _ rfl _ _ 96 rfl 3 3 .i64 (int_keyed Tryd.underlying3) Tryd.underlying96 Tryd.underlying3 (hzero _) mb nm D rfl hown _ (.int .i64 (p : Int)) rfl (keyOf_int_mk Tryd.underlying3 hwp) ?_; intro c hat _; rw [hh']; clear hat) | (at_mapUpdate; refine wpList_mapUpdate_own _ rfl _ _ _ 96 rfl 3 3 (int_keyed Tryd.underlying3) Tryd.underlying96 _ mb nm D rfl hown hnm _ _ (.int .i64 (p : Int)) rfl rfl (keyOf_int_mk Tryd.underlying3 hwp) _ [] (plainElem_int Tryd.underlying3 hwn) ?_; intro w2 hown2 hgrow2))
  have hk : ∀ k, k < w.heap.size → k ≠ mb → w2.heap[k]? = w.heap[k]? := fun k h1 h2 => hgrow2.block k h1 (by simpa using h2)
  obtain ⟨z1, z2, z3, z4⟩ := hC.size
  go_ret
  refine ⟨rfl, ⟨(hk _ z1 hC.fm).trans hC.fbox, (hk _ z2 hC.gm).trans hC.gbox, (hk _ z3 hC.mm).trans hC.mbox, ⟨nm + 1, _, hown2, by rw [List.length_set]; omega, hMR'⟩, hC.high, hC.fg, hC.fm, hC.gm, hC.gx', hC.mm⟩, ?_⟩
  exact (Turned.refl _ w).grown hgrow2 (fun k hk => Or.inl (Or.inr (Option.some.inj hk).symm))
end

/-- The document's come: the labels and the error behind it; is the place new. -/
theorem rcome_any (w : World) (lo fx gx mx mb : Nat) (f : Fc) (deep : List Int) (e : Int) (p : Nat) (n : Int) (S : RS w lo fx gx mx mb f deep e) (hn : f.codeS.n = f.code.length) (hd : deep.length = f.code.length) (hlim : deep.length ≤ 5000) (hn0 : 0 ≤ n) :
    Calls Tryd.prog 87 #[.int .i64 (p : Int), .int .i64 n, .pointer (some ⟨fx, 0, none⟩), .pointer (some ⟨gx, 0, none⟩), .pointer (some ⟨mx, 0, none⟩)] w
      fun r w' => r = .returned (.bool (comeN deep p n)) ∧ RS w' lo fx gx mx mb f (comeD deep e p n).1 (comeD deep e p n).2 ∧ Turned (Gs gx mb) w w' := by
  by_cases h1 : deep.length ≤ p ∨ 200 < n
  · have hN : comeN deep p n = false := by
      unfold comeN
      rcases h1 with h1 | h1 <;> simp [h1]
    have hD : comeD deep e p n = (deep, 3) := by unfold comeD; rw [if_pos h1]
    rw [hN, hD]
    refine (rcome_bad w lo fx gx mx mb f deep e p n S hn hd h1).mono ?_
    rintro r w' ⟨rfl, rfl⟩
    exact ⟨rfl, S.bad, RS.badT _⟩
  · by_cases h2 : deep.getD p 0 < 0
    · have hN : comeN deep p n = true := by
        unfold comeN
        simp only [Bool.and_eq_true, Bool.not_eq_true', Bool.or_eq_false_iff, decide_eq_false_iff_not, decide_eq_true_eq]
        exact ⟨⟨fun h => h1 (Or.inl h), fun h => h1 (Or.inr h)⟩, h2⟩
      have hD : comeD deep e p n = (deep.set p n, e) := by unfold comeD; rw [if_neg h1, if_pos h2]
      rw [hN, hD]
      exact rcome_new w lo fx gx mx mb f deep e p n S hn hd hlim h1 hn0 h2
    · have hN : comeN deep p n = false := by
        unfold comeN
        rw [decide_eq_false h2, Bool.and_false]
      rw [hN]
      refine (rcome_old w lo fx gx mx mb f deep e p n S hn hd hlim h1 h2).mono ?_
      by_cases h3 : deep.getD p 0 = n
      · have hD : comeD deep e p n = (deep, e) := by unfold comeD; rw [if_neg h1, if_neg h2, if_pos h3]
        rw [hD, if_pos h3]
        rintro r w' ⟨rfl, rfl⟩
        exact ⟨rfl, S, Turned.refl _ _⟩
      · have hD : comeD deep e p n = (deep, 3) := by unfold comeD; rw [if_neg h1, if_neg h2, if_neg h3]
        rw [hD, if_neg h3]
        rintro r w' ⟨rfl, rfl⟩
        exact ⟨rfl, S.bad, RS.badT _⟩
end Go.Proofs.YthbkklnahhdgcaaDoor.CodeF
