/-
  What the document's function keeps, in plain words; its limits.
-/
import Derived.Test.YthbkklnahhdgcaaDoorDMC
import Derived.Test.YthbkklnahhdgcaaDoorDMH
namespace Go.Proofs.YthbkklnahhdgcaaDoor.CodeGa
open Go Go.Proofs Go.RowKit Go.Maps Lib CodeR CodeA CodeB CodeP CodeD CodeV CodeW CodeXa CodeEa CodeF

/-- 'insert', a map literal's element, at a map of the call's own. -/
theorem wpList_insert_own {H : Type} {P : Program} (w : World) {ops : Array Oper} {rest : List Oper} {o : Oper} {a : Act} {Q : Exit → Act → World → Prop}
    (hg : o.guard = none) (m x v : Operand) (t : TypeId) (hop : o.op = Op.insert t m x v)
    (k e : TypeId) (K : Keyed P k) (ht : P.underlying t = some (.map k e)) (R : Value → Option (DataW H × List MemPlace)) (b n : Nat) (D : DataW H)
    (hm : a.eval m = .map (some b)) (hown : w.ownsMap P k R b n D) (hn : n < maxLen) (key val : Value) (kl : Lit) (hx : a.eval x = key) (hv : a.eval v = val) (hkey : keyOf P k key = some kl)
    (d : DataW H) (ps : List MemPlace) (hval : R val = some (d, ps))
    (hK : ∀ w', w'.ownsMap P k R b (n + 1) (D.put kl d) → w.grownBy w' (some b) → wpList P ops Q rest (a.put o.dst undef) w') :
    wpList P ops Q (o :: rest) a w := by
  refine wpList_plain hg fun K' hK' => ?_
  obtain ⟨w', hrun, r1, r2⟩ := hown.update K ht hn hkey hval
  unfold Oper.wp
  simp [execOp, hop, hm, hx, hv, hrun, Result.andThen]
  exact hK' _ _ (hK w' r1 r2)

/-- What the document's loops keep. -/
structure RI (w wz : World) (X gx mx mb : Nat) (f : Fc) (deep : List Int) (e : Int) : Prop where
  rs : RS wz X X gx mx mb f deep e
  bel : Below X w wz

theorem RI.keep {w wz w' : World} {X gx mx mb : Nat} {f : Fc} {deep : List Int} {e : Int} (h : RI w wz X gx mx mb f deep e) (hb : Below wz.heap.size wz w') : RI w w' X gx mx mb f deep e :=
  ⟨h.rs.below hb, h.bel.trans (hb.mono (by have := h.rs.size; omega))⟩

theorem rcome_c {w wz : World} {X gx mx mb : Nat} {f : Fc} {P : Nat → Prop} {deep : List Int} {e : Int} (p : Nat) (n : Int) (h : RI w wz X gx mx mb f deep e) (hn : f.codeS.n = f.code.length) (l2 : f.code.length ≤ 5000) (hp : Inv f P deep e) (hn0 : 0 ≤ n) :
    Calls Tryd.prog 87 #[.int .i64 (p : Int), .int .i64 n, .pointer (some ⟨X, 0, none⟩), .pointer (some ⟨gx, 0, none⟩), .pointer (some ⟨mx, 0, none⟩)] wz
      fun r w' => r = .returned (.bool (comeN deep p n)) ∧ RI w w' X gx mx mb f (comeD deep e p n).1 (comeD deep e p n).2 ∧ Turned (Gs gx mb) wz w' := by
  have hl := hp.len
  refine (rcome_any wz X X gx mx mb f deep e p n h.rs hn hl (by omega) hn0).mono ?_
  rintro r w' ⟨rfl, h1, h2⟩
  refine ⟨rfl, ⟨h1, h.bel.trans (h2.below (by have := h.rs.size; omega) ?_)⟩, h2⟩
  intro k hk
  have hh := h.rs.high
  rcases hk with rfl | rfl
  · exact hh.2.1
  · exact hh.2.2.2

theorem MR.top (n : Nat) (h : 0 < n) : MR ((.map [] : DataW Unit).put (.int .i64 0) (.lit (.int .i64 0))) ((List.replicate n (-1)).set 0 0) := by
  have h0 : MR (.map [] : DataW Unit) (List.replicate n (-1)) := by
    refine ⟨isMap_empty, fun i hi => ?_⟩
    have hg : (List.replicate n (-1 : Int)).getD i 0 = -1 := by
      rw [List.getD_eq_getElem?_getD, List.getElem?_replicate, if_pos (by simpa using hi)]; rfl
    rw [hg]
    exact ⟨rfl, fun hc => absurd hc (by decide)⟩
  exact h0.put (p := 0) (n := 0) (by simpa using h) (Int.le_refl _)
theorem comeD_top (n : Nat) (h : 0 < n) : comeD (List.replicate n (-1)) 0 0 0 = ((List.replicate n (-1)).set 0 0, 0) := by
  unfold comeD
  rw [if_neg (by simp; omega), if_pos]
  rw [List.getD_eq_getElem?_getD, List.getElem?_replicate, if_pos h]
  decide
theorem unl_top (n : Nat) (h : 0 < n) : unl ((List.replicate n (-1)).set 0 0) + 1 = n := by
  have h1 := unl_come (deep := List.replicate n (-1)) (e := 0) (p := 0) (n := 0) (Int.le_refl _)
  have hN : comeN (List.replicate n (-1)) 0 0 = true := by
    unfold comeN
    rw [List.getD_eq_getElem?_getD, List.getElem?_replicate, if_pos h]
    simp
    omega
  rw [comeD_top n h, hN, unl_rep] at h1
  exact h1
theorem Inv.comeT {f : Fc} {deep : List Int} {e : Int} (h : Inv f (fun _ => True) deep e) {p : Nat} {n : Int} (hn : 0 ≤ n) (hf : ∀ d, Fits f d → d p = some n) :
    Inv f (fun _ => True) (comeD deep e p n).1 (comeD deep e p n).2 ∧ (∀ i k, lab deep i = some k → lab (comeD deep e p n).1 i = some k) ∧ ((comeD deep e p n).2 = 0 → e = 0 ∧ lab (comeD deep e p n).1 p = some n) := by
  obtain ⟨h1, h2, h3, _, _⟩ := h.come hn hf
  exact ⟨h1.mono (fun _ _ => trivial), h2, h3⟩
/-- The boxes as the document's function makes them. -/
theorem RS_start {w2 : World} {X mb n : Nat} {f : Fc} {D : DataW Unit} {deep : List Int} (hX : w2.heap[X]? = some (.cells f.vals.toArray 130 (0, 0))) (hown : w2.ownsMap Tryd.prog 3 (plainElem Tryd.prog 3) mb n D) (hr : n + unl deep ≤ deep.length) (hMR : MR D deep) (hXm : X < mb) :
    RS ((w2.alloc (.cells #[.map (some mb)] 96)).alloc (.cells #[.bool true] 4)) X X (w2.heap.size + 1) w2.heap.size mb f deep 0 := by
  have h1 := lt_of_block hX
  have h2 := hown.lt
  have old : ∀ k, k < w2.heap.size → ((w2.alloc (.cells #[.map (some mb)] 96)).alloc (.cells #[.bool true] 4)).heap[k]? = w2.heap[k]? := by
    intro k hk
    rw [Below.heap_alloc _ _ _ (by simp; omega), Below.heap_alloc _ _ _ hk]
  refine { fbox := (old _ h1).trans hX, gbox := ?_, mbox := ?_, map := ⟨n, D, ownsMap_same hown (old _ h2), hr, hMR⟩, high := by omega, fg := by omega, fm := by omega, gm := by omega, gx' := by omega, mm := by omega }
  · have := heap_alloc_new (w2.alloc (.cells #[.map (some mb)] 96)) (.cells #[.bool true] 4)
    simpa using this
  · rw [Below.heap_alloc _ _ _ (by simp)]
    exact heap_alloc_new w2 _
/-- One come, of what is owed. -/
theorem Inv.come1 {f : Fc} {again : Bool} {k : Nat} {deep : List Int} {e : Int} (h : Inv f (fun i => again = true ∨ k ≤ i) deep e) {p : Nat} {n : Int} (hn : 0 ≤ n) (hf : ∀ d, Fits f d → d p = some n) :
    Inv f (fun i => (again || comeN deep p n) = true ∨ k ≤ i) (comeD deep e p n).1 (comeD deep e p n).2 ∧ (∀ i k, lab deep i = some k → lab (comeD deep e p n).1 i = some k) ∧ ((comeD deep e p n).2 = 0 → e = 0 ∧ lab (comeD deep e p n).1 p = some n)
      ∧ unl (comeD deep e p n).1 + (if comeN deep p n then 1 else 0) = unl deep := by
  obtain ⟨h1, h2, h3, _, _⟩ := h.come hn hf
  refine ⟨h1.mono ?_, h2, h3, unl_come hn⟩
  rintro i ((hi | hi) | ⟨hi, _⟩)
  · exact Or.inl (by rw [hi]; rfl)
  · exact Or.inr hi
  · exact Or.inl (by rw [hi]; simp)
/-- A place that has no label, or where all is wrong already: nothing is owed. -/
theorem Inv.skip {f : Fc} {again : Bool} {k : Nat} {deep : List Int} {e : Int} (h : Inv f (fun i => again = true ∨ k ≤ i) deep e) (hk : lab deep k = none ∨ e ≠ 0) : Inv f (fun i => again = true ∨ k + 1 ≤ i) deep e := by
  refine ⟨h.len, h.range, h.err, h.forced, h.bad, ?_⟩
  intro he i n x hl hP hx
  refine h.done he i n x hl ?_ hx
  rintro (h1 | h1)
  · exact hP (Or.inl h1)
  · by_cases hik : i = k
    · subst hik
      rcases hk with hk | hk
      · rw [hk] at hl; cases hl
      · exact hk he
    · exact hP (Or.inr (by omega))
/-- A place that is done. -/
theorem Inv.next {f : Fc} {again : Bool} {k : Nat} {deep : List Int} {e : Int} (h : Inv f (fun i => again = true ∨ k ≤ i) deep e) {n : Int} {x : I3} (hl : e = 0 → lab deep k = some n) (hx : f.code[k]? = some x) (ht : takeI x ≤ n)
    (hy : e = 0 → ∀ y ∈ follows k n x, lab deep y.1.toNat = some y.2) : Inv f (fun i => again = true ∨ k + 1 ≤ i) deep e :=
  h.pay hl hx ht hy (fun i hi => by
    rcases hi with hi | hi
    · exact Or.inl (Or.inl hi)
    · by_cases hik : i = k
      · exact Or.inr hik
      · exact Or.inl (Or.inr (by omega)))
theorem Inv.again {f : Fc} {P : Nat → Prop} {deep : List Int} {e : Int} (h : Inv f P deep e) : Inv f (fun i => false = true ∨ 0 ≤ i) deep e := h.mono (fun i _ => Or.inr (Nat.zero_le i))
theorem Inv.over {f : Fc} {deep : List Int} {e : Int} (h : Inv f (fun i => false = true ∨ f.code.length ≤ i) deep e) : Inv f (fun _ => False) deep e := by
  refine ⟨h.len, h.range, h.err, h.forced, h.bad, ?_⟩
  intro he i n x hl _ hx
  refine h.done he i n x hl ?_ hx
  rintro (h1 | h1)
  · cases h1
  · have := lab_lt hl; rw [h.len] at this; omega
theorem St.fits {f : Fc} {deep : List Int} (h : Inv f (fun _ => False) deep 0) (hs : St f f.hs.length deep 0) : ∃ d, Fits f d := by
  obtain ⟨h1, h2⟩ := hs rfl
  refine ⟨lab deep, h.end_ok h1 ?_⟩
  intro x hx
  obtain ⟨j, hj⟩ := List.mem_iff_getElem?.mp hx
  exact h2 j x (List.getElem?_eq_some_iff.mp hj).1 hj

set_option maxRecDepth 100000 in
set_option maxHeartbeats 4000000 in
theorem rfun_lim (mb mo : Nat) (f : Fc) (w : World) (hn : f.codeS.n = f.code.length) (hl : limB f = false) :
    Calls Tryd.prog 43 #[.pointer (some ⟨mb, mo, none⟩), .agg #[.string f.name, .int .i64 f.params, .int .i64 f.slots, .slice f.codeS.oa f.codeS.n f.codeS.c, .slice f.hsS.oa f.hsS.n f.hsS.c, .slice f.varsS.oa f.varsS.n f.varsS.c]] w
      fun r w' => r = .returned (.int .i64 4) ∧ Below w.heap.size w w' := by
  rw [hn]
  cases h1 : CodeR.within (f.code.length : Int) 1 5000
  · go_enter Tryd.func43, Tryd.ntmps43
    go_wp2_with (go_at_call 42; refine (within_any _ _ _ _).mono ?_; rintro e w1 ⟨rfl, hw1⟩; rw [hw1]; clear hw1 w1)
    go_ret
    exact ⟨rfl, below_alloc (Below.refl _ _) _ (Nat.le_refl _)⟩
  · cases h2 : CodeR.within f.params 0 8
    · go_enter Tryd.func43, Tryd.ntmps43
      go_wp2_with (go_at_call 42; refine (within_any _ _ _ _).mono ?_; rintro e w1 ⟨rfl, hw1⟩; rw [hw1]; clear hw1 w1)
      go_ret
      exact ⟨rfl, below_alloc (Below.refl _ _) _ (Nat.le_refl _)⟩
    · have h3 : CodeR.within f.slots f.params 200 = false := by
        unfold limB at hl
        rw [h1, h2] at hl
        simpa using hl
      go_enter Tryd.func43, Tryd.ntmps43
      go_wp2_with (go_at_call 42; refine (within_any _ _ _ _).mono ?_; rintro e w1 ⟨rfl, hw1⟩; rw [hw1]; clear hw1 w1)
      go_ret
      exact ⟨rfl, below_alloc (Below.refl _ _) _ (Nat.le_refl _)⟩
end Go.Proofs.YthbkklnahhdgcaaDoor.CodeGa
