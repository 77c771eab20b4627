/-
  The contract of the laws' image: an image as the document's, the same data.
-/
import Derived.Test.YthbkklnahhdgcaaDoorCodeK
import Derived.Test.YthbkklnahhdgcaaDoorCodeS
import Derived.Deep.AppendLies
import Derived.Deep.RegionHeld3
namespace Go.Proofs.YthbkklnahhdgcaaDoor.CodeL
open Go Go.Proofs Go.RowKit Lib CodeR CodeA CodeB CodeP CodeQ CodeD CodeS CodeH CodeK

theorem infoC : (Tryd.prog.info? 132).map (fun i => (i.zero, i.size, i.bytes)) = some (some (.agg #[.bool false, .string ByteArray.empty, .int .i64 0]), 3, 32) := by kernel_rfl
theorem infoK : (Tryd.prog.info? 125).map (fun i => (i.zero, i.size, i.bytes)) = some (some (.agg #[.string ByteArray.empty, .int .i64 0, .slice none 0 0, .slice none 0 0, .slice none 0 0]), 5, 96) := by kernel_rfl
theorem infoF : (Tryd.prog.info? 130).map (fun i => (i.zero, i.size, i.bytes)) = some (some (.agg #[.string ByteArray.empty, .int .i64 0, .int .i64 0, .slice none 0 0, .slice none 0 0, .slice none 0 0]), 6, 104) := by kernel_rfl
theorem infoI : (Tryd.prog.info? 135).map (fun i => (i.zero, i.size, i.bytes)) = some (some (.agg #[.int .i64 0, .int .i64 0, .int .i64 0]), 3, 24) := by kernel_rfl
theorem infoH : (Tryd.prog.info? 138).map (fun i => (i.zero, i.size, i.bytes)) = some (some (.agg #[.int .i64 0, .int .i64 0, .int .i64 0]), 3, 24) := by kernel_rfl
theorem infoS : (Tryd.prog.info? 141).map (fun i => (i.zero, i.size, i.bytes)) = some (some (.agg #[.string ByteArray.empty, .int .i64 0, .int .i64 0, .int .i64 0, .bool false]), 5, 48) := by kernel_rfl

/-- A row of the call's own, of elements of several cells. -/
def OR (w : World) (base E sz : Nat) (v : Value) (rows : List (List Value)) : Prop := w.ownsRow base E sz v rows.length rows.flatten
theorem OR.nil (w : World) (base E sz : Nat) : OR w base E sz (.slice none 0 0) [] := World.ownsRow_nil _ _ _ _
theorem OR.keep {w w' : World} {base E sz : Nat} {v : Value} {rows : List (List Value)} (h : OR w base E sz v rows) (hb : ∀ g, v.ownBlock = some g → w'.heap[g]? = w.heap[g]?) : OR w' base E sz v rows := own_keep h hb
/-- The block of an own row has its type. -/
theorem own_block {w : World} {base : Nat} {e : TypeId} {size : Nat} {v : Value} {n : Nat} {xs : List Value} (h : w.ownsRow base e size v n xs) {g : Nat} (hg : v.ownBlock = some g) : ∃ cur, w.heap[g]? = some (.cells cur e (0, 0)) := by
  obtain ⟨_, h2⟩ := h
  rcases h2 with ⟨rfl, _⟩ | ⟨g', cap, cur, rfl, _, h4, _⟩
  · cases hg
  · cases hg; exact ⟨cur, h4⟩
theorem own_apart {w : World} {base base' : Nat} {e e' : TypeId} {size size' : Nat} {v v' : Value} {n n' : Nat} {xs xs' : List Value} (h : w.ownsRow base e size v n xs) (h' : w.ownsRow base' e' size' v' n' xs') (hne : e ≠ e') {g : Nat} (hg : v.ownBlock = some g) : v'.ownBlock ≠ some g := by
  intro hg'
  obtain ⟨c, h1⟩ := own_block h hg
  obtain ⟨c', h2⟩ := own_block h' hg'
  rw [h1] at h2
  cases h2
  exact hne rfl
theorem sum_const {rows : List (List Value)} {sz : Nat} (hr : ∀ r ∈ rows, r.length = sz) : rows.flatten.length = rows.length * sz := by
  induction rows with
  | nil => simp
  | cons a l ih =>
    rw [List.flatten_cons, List.length_append, ih (fun r hr' => hr r (List.mem_cons_of_mem _ hr')), hr a List.mem_cons_self, List.length_cons, Nat.succ_mul]
    omega
theorem flatten_get {rows : List (List Value)} {sz : Nat} (hr : ∀ r ∈ rows, r.length = sz) : ∀ (i : Nat) (r : List Value), rows[i]? = some r → ∀ (k : Nat) (v : Value), r[k]? = some v → rows.flatten[i * sz + k]? = some v := by
  induction rows with
  | nil => intro i r h; simp at h
  | cons a l ih =>
    intro i r h k v hv
    have hla := hr a List.mem_cons_self
    cases i with
    | zero =>
      simp at h
      subst h
      have hk : k < a.length := (List.getElem?_eq_some_iff.mp hv).1
      rw [List.flatten_cons, Nat.zero_mul, Nat.zero_add, List.getElem?_append_left hk]
      exact hv
    | succ i =>
      rw [List.flatten_cons, List.getElem?_append_right (by rw [hla, Nat.succ_mul]; omega), hla, Nat.succ_mul, show i * sz + sz + k - sz = i * sz + k by omega]
      exact ih (fun r hr' => hr r (List.mem_cons_of_mem _ hr')) i r (by simpa using h) k v hv
/-- An own row, as the images' predicates say it. -/
theorem OR.slIn {w : World} {base E sz : Nat} {v : Value} {rows : List (List Value)} (h : OR w base E sz v rows) (hr : ∀ r ∈ rows, r.length = sz) : ∃ S : Sl, S.val = v ∧ SlIn w S sz rows ∧ (S.oa = none ∨ S.oa = some ⟨S.b, S.o, none⟩) := by
  obtain ⟨h1, h2⟩ := h
  rcases h2 with ⟨rfl, h2⟩ | ⟨g, cap, cur, rfl, _, h4, h5, h6, _, h8⟩
  · have h0 : rows = [] := List.eq_nil_of_length_eq_zero h2
    subst h0
    exact ⟨⟨none, 0, 0, 0, 0⟩, rfl, ⟨rfl, Nat.zero_le _, fun h => absurd h (by simp), fun i r hr => by simp at hr⟩, Or.inl rfl⟩
  · refine ⟨⟨some ⟨g, 0, none⟩, rows.length, cap, g, 0⟩, rfl, ⟨rfl, by (show rows.length ≤ 9223372036854775807; unfold maxLen at h6; omega), fun _ => rfl, ?_⟩, Or.inr rfl⟩
    intro i r hi k u hu
    have hk : k < r.length := (List.getElem?_eq_some_iff.mp hu).1
    have hlr := hr r (List.mem_of_getElem? hi)
    have hil : i < rows.length := (List.getElem?_eq_some_iff.mp hi).1
    have hb : i * sz + k < rows.length * sz := by
      have : (i + 1) * sz ≤ rows.length * sz := Nat.mul_le_mul_right _ hil
      rw [Nat.succ_mul] at this
      omega
    have h9 := flatten_get hr i r hi k u hu
    rw [← h8, List.getElem?_take_of_lt hb] at h9
    refine Lib.cell_of_block h4 ?_
    rw [Nat.zero_add]
    simpa using h9
def mkSl : Value → Sl
  | .slice (some a) n c => ⟨some a, n, c, a.block, a.off⟩
  | .slice none n c => ⟨none, n, c, 0, 0⟩
  | _ => ⟨none, 0, 0, 0, 0⟩
theorem OR.mkIn {w : World} {base E sz : Nat} {v : Value} {rows : List (List Value)} (h : OR w base E sz v rows) (hr : ∀ r ∈ rows, r.length = sz) : (mkSl v).val = v ∧ SlIn w (mkSl v) sz rows := by
  have h' := h
  obtain ⟨_, h2⟩ := h'
  obtain ⟨S, hS, hI, hg⟩ := h.slIn hr
  rcases h2 with ⟨rfl, h2⟩ | ⟨g, cap, cur, rfl, _, h4, h5, h6, _, h8⟩
  · have h0 : rows = [] := List.eq_nil_of_length_eq_zero h2
    subst h0
    exact ⟨rfl, ⟨rfl, Nat.zero_le _, fun h => absurd h (by simp [mkSl]), fun i r hr => by simp at hr⟩⟩
  · refine ⟨rfl, ?_⟩
    have hoa : S.oa = some ⟨g, 0, none⟩ := by unfold Sl.val at hS; injection hS
    have hn : S.n = rows.length := hI.len
    have hb : rows = [] ∨ (S.b = g ∧ S.o = 0) := by
      by_cases h0 : rows = []
      · exact Or.inl h0
      · right
        rcases hg with hg | hg
        · rw [hoa] at hg; cases hg
        · rw [hoa] at hg
          injection hg with hg
          injection hg with h1 h2
          exact ⟨h1.symm, h2.symm⟩
    refine ⟨rfl, by (show rows.length ≤ 9223372036854775807; rw [← hn]; exact hI.small), fun _ => rfl, ?_⟩
    intro i r hi
    rcases hb with rfl | ⟨h1, h2⟩
    · simp at hi
    · have := hI.row i r hi
      rw [h1, h2] at this
      exact this
theorem OR.low {w : World} {base E sz : Nat} {v : Value} {rows : List (List Value)} (h : OR w base E sz v rows) : OR w 0 E sz v rows := by
  obtain ⟨h1, h2⟩ := h
  refine ⟨h1, ?_⟩
  rcases h2 with h2 | ⟨g, cap, cur, rfl, _, r⟩
  · exact Or.inl h2
  · exact Or.inr ⟨g, cap, cur, rfl, Nat.zero_le _, r⟩
/-- A function's three rows are the call's own. -/
structure OwnF (w : World) (f : Fc) : Prop where
  code : OR w 0 135 3 f.codeS.val (f.code.map I3.vals)
  hs : OR w 0 138 3 f.hsS.val (f.hs.map H3.vals)
  vars : OR w 0 141 5 f.varsS.val (f.vars.map Vr.vals)
  c1 : mkSl f.codeS.val = f.codeS
  c2 : mkSl f.hsS.val = f.hsS
  c3 : mkSl f.varsS.val = f.varsS
theorem OwnF.fcIn {w : World} {f : Fc} (h : OwnF w f) : FcIn w f := by
  have h1 := (h.code.mkIn (by intro r hr; obtain ⟨x, _, rfl⟩ := List.mem_map.mp hr; rfl)).2
  have h2 := (h.hs.mkIn (by intro r hr; obtain ⟨x, _, rfl⟩ := List.mem_map.mp hr; rfl)).2
  have h3 := (h.vars.mkIn (by intro r hr; obtain ⟨x, _, rfl⟩ := List.mem_map.mp hr; rfl)).2
  rw [h.c1] at h1
  rw [h.c2] at h2
  rw [h.c3] at h3
  exact ⟨h1, h2, h3⟩
theorem OwnF.keep {w w' : World} {f : Fc} (h : OwnF w f) (hb : ∀ (g : Nat) (cur : Array Value) (E : TypeId), (E = 135 ∨ E = 138 ∨ E = 141) → w.heap[g]? = some (Obj.cells cur E (0, 0)) → w'.heap[g]? = w.heap[g]?) : OwnF w' f :=
  ⟨h.code.keep (fun g hg => by obtain ⟨cur, hc⟩ := own_block h.code hg; exact hb g cur _ (Or.inl rfl) hc), h.hs.keep (fun g hg => by obtain ⟨cur, hc⟩ := own_block h.hs hg; exact hb g cur _ (Or.inr (Or.inl rfl)) hc), h.vars.keep (fun g hg => by obtain ⟨cur, hc⟩ := own_block h.vars hg; exact hb g cur _ (Or.inr (Or.inr rfl)) hc), h.c1, h.c2, h.c3⟩
theorem mkSl_idem (v : Value) (oa : Option Addr) (n c : Nat) (h : v = .slice oa n c) : mkSl (mkSl v).val = mkSl v := by
  subst h
  cases oa <;> rfl
theorem own_one {w : World} {base : Nat} {e : TypeId} {size : Nat} {v : Value} {n : Nat} {xs : List Value} (h : w.ownsRow base e size v n xs) : v.oneCell' = true := by
  obtain ⟨_, h2⟩ := h
  rcases h2 with ⟨rfl, _⟩ | ⟨g, cap, _, rfl, _⟩ <;> rfl
theorem img_set {w : World} {X i : Nat} {c : Array Value} {v : Value} {t : TypeId} (h : w.heap[X]? = some (.cells c t (0, 0))) : (w.setCell ⟨X, i, none⟩ v).heap[X]? = some (.cells (c.setIfInBounds i v) t (0, 0)) := by
  have hlt := lt_of_block h
  have h' : w.heap[X] = .cells c t (0, 0) := by simpa [Array.getElem?_eq_getElem hlt] using h
  show (w.heap.modify X _)[X]? = _
  rw [Array.getElem?_eq_getElem (by simpa using hlt), Array.getElem_modify_self, h']
  rfl
theorem OR_step {w : World} {B E sz n : Nat} {v u : Value} {rows : List (List Value)} {r : List Value} {X i : Nat} (h : w.ownsRow B E sz v (n + 1) (rows.flatten ++ r)) (hn : rows.length = n) (hX : X < B) : OR (w.setCell ⟨X, i, none⟩ u) B E sz v (rows ++ [r]) := by
  unfold OR
  rw [List.length_append, List.length_singleton, hn, List.flatten_append, List.flatten_singleton]
  exact own_keep h (fun g hg => block_setCell_ne (by have := (own_base h hg).1; simp only; omega))
theorem take_map_succ {α β : Type} (g : α → β) {l : List α} {k : Nat} {x : α} (h : l[k]? = some x) : (l.take (k + 1)).map g = (l.take k).map g ++ [g x] := by
  rw [List.take_add_one, h]; simp
end Go.Proofs.YthbkklnahhdgcaaDoor.CodeL
