/-
  From an argument code.Image of bulk at most 1048576, read as data, to what lies in memory, with what is known of its numbers, texts and lengths.
-/
import Derived.Test.YthbkklnahhdgcaaDoorDMA
import Derived.Test.YthbkklnahhdgcaaDoorDCodeO
import Derived.Test.YthbkklnahhdgcaaDoorRows
import Derived.Test.YthbkklnahhdgcaaDoorProg
import Derived.Deep.Fields
import Derived.SizedLaws
import Derived.ChangeBook
import Derived.ChangeStays
import Derived.RowKit
import Derived.WalkKit
import Derived.OpenShut
namespace Go.Proofs.YthbkklnahhdgcaaDoor.CodeOb
open Go Go.Proofs Go.RowKit Go.Deep Go.ChangeShapes Go.WideShapes Lib CodeR

/-! ### what is known of the numbers, texts, lengths -/
def i64 (n : Int) : Prop := -9223372036854775808 ≤ n ∧ n ≤ 9223372036854775807
def stOk (s : ByteArray) : Prop := s.size ≤ 1048576
def I3Ok (x : I3) : Prop := i64 x.op ∧ i64 x.a ∧ i64 x.b
def H3Ok (x : H3) : Prop := i64 x.f ∧ i64 x.t ∧ i64 x.g
def VrOk (x : Vr) : Prop := stOk x.name ∧ i64 x.slot ∧ i64 x.f ∧ i64 x.t
def CnOk (x : Cn) : Prop := stOk x.s ∧ i64 x.n
structure FcOk (f : Fc) : Prop where
  name : stOk f.name
  params : i64 f.params
  slots : i64 f.slots
  code : ∀ x ∈ f.code, I3Ok x
  hs : ∀ x ∈ f.hs, H3Ok x
  vars : ∀ x ∈ f.vars, VrOk x
  lens : f.code.length ≤ 140737488355328 ∧ f.hs.length ≤ 140737488355328 ∧ f.vars.length ≤ 140737488355328
structure ClOk (c : Cl) : Prop where
  name : stOk c.name
  above : i64 c.above
  fields : ∀ s ∈ c.fields, stOk s
  names : ∀ s ∈ c.names, stOk s
  methods : ∀ n ∈ c.methods, i64 n
  lens : c.fields.length ≤ 140737488355328 ∧ c.names.length ≤ 140737488355328 ∧ c.methods.length ≤ 140737488355328
structure ImOk (m : Im) : Prop where
  fn : ∀ f ∈ m.funcs, FcOk f
  cl : ∀ c ∈ m.classes, ClOk c
  cn : ∀ c ∈ m.consts, CnOk c
  lens : m.funcs.length ≤ 140737488355328 ∧ m.consts.length ≤ 140737488355328 ∧ m.classes.length ≤ 140737488355328

theorem part_le {H : Type} {d : DataW H} {l : List (DataW H)} (h : d ∈ l) : Rows.uptoBulk d ≤ Rows.uptoBulkAll l := by
  induction l with
  | nil => cases h
  | cons x r ih =>
    simp only [Rows.uptoBulkAll]
    cases List.mem_cons.1 h with
    | inl e => subst e; omega
    | inr e => have := ih e; omega

/-! ### opening -/
section
variable {H : Type} {enc : TypeId × Value → H} {P : Program} {w : World} {base : Nat} {spare : Nat → Bool} {held : Bool}

theorem weightsAll_mem {e : TypeId} : ∀ {l : List (DataW H)} {d : DataW H}, d ∈ l → ∀ n ∈ d.weights P e, n ∈ DataW.weightsAll P e l
  | d0 :: l, d, hd, n, hn => by
    rw [DataW.weightsAll, List.mem_append]
    rcases List.mem_cons.mp hd with rfl | hd
    · exact Or.inl hn
    · exact Or.inr (weightsAll_mem hd n hn)
  | [], _, hd, _, _ => by cases hd

theorem open_fields {t : TypeId} {fs : Array Field} {fuel : Nat} {cs : List Value} {x : DataW H × List MemPlace} (ht : P.underlying t = some (.struct fs)) (hone : oneCellFields P fs = true) (hC : P.cellsOf t = fs.size) (h : DataW.trod enc P w base spare held fuel t cs = some x) :
    cs.length = fs.size ∧ ∃ n, ∀ (i : Nat) (f : Field), fs[i]? = some f → ∃ v y, cs[i]? = some v ∧ DataW.trod enc P w base spare held n f.type [v] = some y ∧ (∀ k ∈ y.1.weights P f.type, k ∈ x.1.weights P t) ∧ Rows.uptoBulk y.1 ≤ Rows.uptoBulk x.1 := by
  obtain ⟨xs, n, _, rfl, hl, hxl, hf⟩ := DataW.trod_struct ht h
  refine ⟨by rw [hl, hC], n, fun i f hi => ?_⟩
  have hlt : i < fs.size := (Array.getElem?_eq_some_iff.1 hi).1
  obtain ⟨ho, hc1⟩ := hone_of hone i f hi
  have g := hf i f hi
  rw [ho, hc1, take1_drop cs i undef (by omega)] at g
  have hx : xs[i]? = some xs[i] := List.getElem?_eq_getElem (by omega)
  rw [hx] at g
  refine ⟨cs.getD i undef, xs[i], ?_, g, ?_⟩
  · rw [List.getD_eq_getElem?_getD, List.getElem?_eq_getElem (by omega)]; rfl
  · refine ⟨fun k hk => ?_, ?_⟩
    · simp only [DataW.weights, ht]
      refine DataW.weights_mem_each (j := i) (t := f.type) (d := xs[i].1) ?_ ?_ k hk
      · rw [List.getElem?_map, Array.getElem?_toList, hi]; rfl
      · rw [List.getElem?_map, hx]; rfl
    · have h2 : xs[i].1 ∈ xs.map (·.1) := List.mem_map.mpr ⟨_, List.getElem_mem _, rfl⟩
      have h3 := part_le h2
      simp only [Rows.uptoBulk]
      omega

theorem int_field {t : TypeId} (ht : P.underlying t = some (.int .i64)) {n : Nat} {v : Value} {y : DataW H × List MemPlace} (h : DataW.trod enc P w base spare held n t [v] = some y) : ∃ k, v = .int .i64 k ∧ i64 k := by
  obtain ⟨k, e, _, hw⟩ := DataW.trod_int ht h
  simp only [List.cons.injEq, and_true] at e
  exact ⟨k, e, Go.bounds_i64 hw⟩
theorem bool_field {t : TypeId} (ht : P.underlying t = some .bool) {n : Nat} {v : Value} {y : DataW H × List MemPlace} (h : DataW.trod enc P w base spare held n t [v] = some y) : ∃ k, v = .bool k := by
  obtain ⟨k, e, _⟩ := DataW.trod_bool ht h
  simp only [List.cons.injEq, and_true] at e
  exact ⟨k, e⟩
theorem str_field {t : TypeId} (ht : P.underlying t = some .string) {n : Nat} {v : Value} {y : DataW H × List MemPlace} (h : DataW.trod enc P w base spare held n t [v] = some y) (hw : (∀ k ∈ y.1.weights P t, k ≤ reachBytes) ∧ Rows.uptoBulk y.1 ≤ 1048576) : ∃ s, v = .string s ∧ stOk s := by
  obtain ⟨s, e, rfl, _⟩ := DataW.trod_string ht h
  simp only [List.cons.injEq, and_true] at e
  refine ⟨s, e, ?_⟩
  have h1 := hw.2
  simp only [Rows.uptoBulk] at h1
  unfold stOk
  have e3 : s.size = s.data.toList.length := by rw [Array.length_toList]; rfl
  omega

theorem open_rows {t e : TypeId} {fuel sz : Nat} {v : Value} {x : DataW H × List MemPlace} {A : Type} (vals : A → List Value) (Q : A → Prop)
    (ht : P.underlying t = some (.slice e)) (hc : P.cellsOf e = sz) (hpos : 0 < sz) (hb : 0 < P.bytesOf e)
    (hx : DataW.trod enc P w 0 (fun _ => true) true fuel t [v] = some x) (hwt : (∀ n ∈ x.1.weights P t, n ≤ reachBytes) ∧ Rows.uptoBulk x.1 ≤ 1048576)
    (hel : ∀ n cs' y, DataW.trod enc P w 0 (fun _ => true) true n e cs' = some y → ((∀ n ∈ y.1.weights P e, n ≤ reachBytes) ∧ Rows.uptoBulk y.1 ≤ 1048576) → ∃ a, cs' = vals a ∧ Q a) :
    ∃ (S : Sl) (l : List A), v = S.val ∧ SlIn w S sz (l.map vals) ∧ (∀ a ∈ l, Q a) ∧ l.length ≤ 140737488355328 := by
  rcases open_slice ht hx with ⟨e0, rfl⟩ | ⟨a, len, cap, m, n, D, Pl, e0, _, hl, hm, hmm, rfl, hall⟩
  · simp only [List.cons.injEq, and_true] at e0
    exact ⟨⟨none, 0, 0, 0, 0⟩, [], e0, ⟨rfl, by decide, (fun h => by cases h), (fun i r h => by simp at h)⟩, (fun _ h => by cases h), Nat.zero_le _⟩
  · simp only [if_true] at hmm
    subst hmm
    simp only [List.cons.injEq, and_true] at e0
    have hw0 := hwt
    have key : ∀ i, i < len → ∃ y : A, (w.cells? 0 (a.add (i * sz)) sz = some (vals y)) ∧ Q y := by
      intro i hi
      obtain ⟨cs', h1, h2⟩ := hall i (by omega)
      obtain ⟨y, rfl, hq⟩ := hel n cs' _ h2 ⟨fun k hk => hwt.1 k (by
        simp only [DataW.weights, ht]
        refine List.mem_cons_of_mem _ (List.mem_append.mpr (Or.inl ?_))
        exact weightsAll_mem (List.mem_map.mpr ⟨i, List.mem_range.mpr hi, rfl⟩) k hk), by
        have h3 := hwt.2
        have h4 := part_le (List.mem_map.mpr ⟨i, List.mem_range.mpr hi, rfl⟩ : D i ∈ (List.range len).map D)
        simp only [Rows.uptoBulk] at h3
        show Rows.uptoBulk (D i) ≤ 1048576
        omega⟩
      rw [hc] at h1
      exact ⟨y, h1, hq⟩
    have hlen : len ≤ 140737488355328 := by
      have := hwt.1 _ (by simp only [DataW.weights, ht]; exact List.mem_cons_self ..)
      have h2 := reachBytes_lt
      simp only [List.length_map, List.length_range] at this
      have h3 : len * 1 ≤ (len + (m - len)) * P.bytesOf e := Nat.mul_le_mul (by omega) hb
      omega
    obtain ⟨b, o, spot⟩ := a
    obtain ⟨l, hll, hlg⟩ : ∃ l : List A, l.length = len ∧ ∀ (i : Nat) y, l[i]? = some y → w.cells? 0 ((⟨b, o, spot⟩ : Addr).add (i * sz)) sz = some (vals y) ∧ Q y := by
      classical
      clear e0 hall hwt hw0 hx hl hlen
      induction len with
      | zero => exact ⟨[], rfl, fun i y h => by simp at h⟩
      | succ k ih =>
        obtain ⟨l, h1, h2⟩ := ih (fun i hi => key i (by omega))
        obtain ⟨y, hy⟩ := key k (by omega)
        refine ⟨l ++ [y], by simp [h1], fun i z hz => ?_⟩
        by_cases hi : i < l.length
        · rw [List.getElem?_append_left hi] at hz
          exact h2 i z hz
        · have hik : i = k := by
            have := (List.getElem?_eq_some_iff.mp hz).1
            simp at this
            omega
          subst hik
          rw [List.getElem?_append_right (by omega), h1, Nat.sub_self] at hz
          simp only [List.getElem?_cons_zero, Option.some.injEq] at hz
          subst hz
          exact hy
    have hspot : 0 < len → spot = none := by
      intro hp
      obtain ⟨y, hy⟩ : ∃ y, l[0]? = some y := ⟨l[0], List.getElem?_eq_getElem (by omega)⟩
      obtain ⟨h1, _⟩ := hlg 0 y hy
      obtain ⟨_, h3, h2⟩ := World.cells?_some h1
      have g := h2 0 hpos
      rw [List.getElem?_eq_getElem (by omega)] at g
      simpa [Addr.add] using World.cell?_spot g
    refine ⟨⟨some ⟨b, o, spot⟩, len, m, b, o⟩, l, e0, ⟨by simp [hll], ?_, ?_, ?_⟩, ?_, by omega⟩
    · show len ≤ _; omega
    · intro hp
      have hp' : 0 < len := hp
      rw [hspot hp']
    · intro i r hr
      rw [List.getElem?_map] at hr
      cases hy : l[i]? with
      | none => rw [hy] at hr; cases hr
      | some y =>
        rw [hy] at hr
        simp only [Option.map_some, Option.some.injEq] at hr
        subst hr
        obtain ⟨h1, _⟩ := hlg i y hy
        have hp : 0 < len := by have := (List.getElem?_eq_some_iff.mp hy).1; omega
        obtain rfl := hspot hp
        obtain ⟨_, h3, h2⟩ := World.cells?_some h1
        intro k v hv
        have hk : k < sz := by have := (List.getElem?_eq_some_iff.mp hv).1; omega
        have g := h2 k hk
        rw [hv] at g
        rw [add_add] at g
        unfold Addr.add at g
        split at g
        · rename_i h0
          rw [show o + i * sz + k = o by omega]; exact g
        · rw [Nat.add_assoc]; exact g
    · intro y hy
      obtain ⟨i, hi⟩ := List.mem_iff_getElem?.mp hy
      exact (hlg i y hi).2
end

/-! ### the types -/
section
variable {H : Type} {enc : TypeId × Value → H} {w : World}

theorem open_instr (n : Nat) (cs : List Value) (y : DataW H × List MemPlace) (h : DataW.trod enc Tryd.prog w 0 (fun _ => true) true n 134 cs = some y) (_ : (∀ k ∈ y.1.weights Tryd.prog 134, k ≤ reachBytes) ∧ Rows.uptoBulk y.1 ≤ 1048576) : ∃ a : I3, cs = a.vals ∧ I3Ok a := by
  obtain ⟨hl, n, hf⟩ := open_fields Tryd.underlying134 (by kernel_rfl) (by kernel_rfl) h
  obtain ⟨v0, y0, e0, t0, _⟩ := hf 0 _ rfl
  obtain ⟨v1, y1, e1, t1, _⟩ := hf 1 _ rfl
  obtain ⟨v2, y2, e2, t2, _⟩ := hf 2 _ rfl
  obtain ⟨k0, rfl, w0⟩ := int_field Tryd.underlying3 t0
  obtain ⟨k1, rfl, w1⟩ := int_field Tryd.underlying3 t1
  obtain ⟨k2, rfl, w2⟩ := int_field Tryd.underlying3 t2
  match cs, hl with
  | [c0, c1, c2], _ =>
    simp only [List.getElem?_cons_zero, List.getElem?_cons_succ, Option.some.injEq] at e0 e1 e2
    subst e0 e1 e2
    exact ⟨⟨k0, k1, k2⟩, rfl, w0, w1, w2⟩

theorem open_handler (n : Nat) (cs : List Value) (y : DataW H × List MemPlace) (h : DataW.trod enc Tryd.prog w 0 (fun _ => true) true n 137 cs = some y) (_ : (∀ k ∈ y.1.weights Tryd.prog 137, k ≤ reachBytes) ∧ Rows.uptoBulk y.1 ≤ 1048576) : ∃ a : H3, cs = a.vals ∧ H3Ok a := by
  obtain ⟨hl, n, hf⟩ := open_fields Tryd.underlying137 (by kernel_rfl) (by kernel_rfl) h
  obtain ⟨v0, y0, e0, t0, _⟩ := hf 0 _ rfl
  obtain ⟨v1, y1, e1, t1, _⟩ := hf 1 _ rfl
  obtain ⟨v2, y2, e2, t2, _⟩ := hf 2 _ rfl
  obtain ⟨k0, rfl, w0⟩ := int_field Tryd.underlying3 t0
  obtain ⟨k1, rfl, w1⟩ := int_field Tryd.underlying3 t1
  obtain ⟨k2, rfl, w2⟩ := int_field Tryd.underlying3 t2
  match cs, hl with
  | [c0, c1, c2], _ =>
    simp only [List.getElem?_cons_zero, List.getElem?_cons_succ, Option.some.injEq] at e0 e1 e2
    subst e0 e1 e2
    exact ⟨⟨k0, k1, k2⟩, rfl, w0, w1, w2⟩

theorem open_var (n : Nat) (cs : List Value) (y : DataW H × List MemPlace) (h : DataW.trod enc Tryd.prog w 0 (fun _ => true) true n 140 cs = some y) (hw : (∀ k ∈ y.1.weights Tryd.prog 140, k ≤ reachBytes) ∧ Rows.uptoBulk y.1 ≤ 1048576) : ∃ a : Vr, cs = a.vals ∧ VrOk a := by
  obtain ⟨hl, n, hf⟩ := open_fields Tryd.underlying140 (by kernel_rfl) (by kernel_rfl) h
  obtain ⟨v0, y0, e0, t0, q0⟩ := hf 0 _ rfl
  obtain ⟨v1, y1, e1, t1, _⟩ := hf 1 _ rfl
  obtain ⟨v2, y2, e2, t2, _⟩ := hf 2 _ rfl
  obtain ⟨v3, y3, e3, t3, _⟩ := hf 3 _ rfl
  obtain ⟨v4, y4, e4, t4, _⟩ := hf 4 _ rfl
  obtain ⟨k0, rfl, w0⟩ := str_field Tryd.underlying9 t0 ⟨fun k hk => hw.1 k (q0.1 k hk), Nat.le_trans q0.2 hw.2⟩
  obtain ⟨k1, rfl, w1⟩ := int_field Tryd.underlying3 t1
  obtain ⟨k2, rfl, w2⟩ := int_field Tryd.underlying3 t2
  obtain ⟨k3, rfl, w3⟩ := int_field Tryd.underlying3 t3
  obtain ⟨k4, rfl⟩ := bool_field Tryd.underlying4 t4
  match cs, hl with
  | [c0, c1, c2, c3, c4], _ =>
    simp only [List.getElem?_cons_zero, List.getElem?_cons_succ, Option.some.injEq] at e0 e1 e2 e3 e4
    subst e0 e1 e2 e3 e4
    exact ⟨⟨k0, k1, k2, k3, k4⟩, rfl, w0, w1, w2, w3⟩

theorem open_const (n : Nat) (cs : List Value) (y : DataW H × List MemPlace) (h : DataW.trod enc Tryd.prog w 0 (fun _ => true) true n 68 cs = some y) (hw : (∀ k ∈ y.1.weights Tryd.prog 68, k ≤ reachBytes) ∧ Rows.uptoBulk y.1 ≤ 1048576) : ∃ a : Cn, cs = a.vals ∧ CnOk a := by
  obtain ⟨hl, n, hf⟩ := open_fields Tryd.underlying68 (by kernel_rfl) (by kernel_rfl) h
  obtain ⟨v0, y0, e0, t0, _⟩ := hf 0 _ rfl
  obtain ⟨v1, y1, e1, t1, q1⟩ := hf 1 _ rfl
  obtain ⟨v2, y2, e2, t2, _⟩ := hf 2 _ rfl
  obtain ⟨k0, rfl⟩ := bool_field Tryd.underlying4 t0
  obtain ⟨k1, rfl, w1⟩ := str_field Tryd.underlying9 t1 ⟨fun k hk => hw.1 k (q1.1 k hk), Nat.le_trans q1.2 hw.2⟩
  obtain ⟨k2, rfl, w2⟩ := int_field Tryd.underlying3 t2
  match cs, hl with
  | [c0, c1, c2], _ =>
    simp only [List.getElem?_cons_zero, List.getElem?_cons_succ, Option.some.injEq] at e0 e1 e2
    subst e0 e1 e2
    exact ⟨⟨k0, k1, k2⟩, rfl, w1, w2⟩

theorem open_str (n : Nat) (cs : List Value) (y : DataW H × List MemPlace) (h : DataW.trod enc Tryd.prog w 0 (fun _ => true) true n 9 cs = some y) (hw : (∀ k ∈ y.1.weights Tryd.prog 9, k ≤ reachBytes) ∧ Rows.uptoBulk y.1 ≤ 1048576) : ∃ a : ByteArray, cs = [Value.string a] ∧ stOk a := by
  obtain ⟨s, rfl, e, _⟩ := DataW.trod_string Tryd.underlying9 h
  obtain ⟨s', e', hs⟩ := str_field Tryd.underlying9 h hw
  cases e'
  exact ⟨s, rfl, hs⟩
theorem open_num (n : Nat) (cs : List Value) (y : DataW H × List MemPlace) (h : DataW.trod enc Tryd.prog w 0 (fun _ => true) true n 3 cs = some y) (_ : (∀ k ∈ y.1.weights Tryd.prog 3, k ≤ reachBytes) ∧ Rows.uptoBulk y.1 ≤ 1048576) : ∃ a : Int, cs = [Value.int .i64 a] ∧ i64 a := by
  obtain ⟨s, rfl, e, hw⟩ := DataW.trod_int Tryd.underlying3 h
  exact ⟨s, rfl, Go.bounds_i64 hw⟩

theorem open_func (n : Nat) (cs : List Value) (y : DataW H × List MemPlace) (h : DataW.trod enc Tryd.prog w 0 (fun _ => true) true n 112 cs = some y) (hw : (∀ k ∈ y.1.weights Tryd.prog 112, k ≤ reachBytes) ∧ Rows.uptoBulk y.1 ≤ 1048576) : ∃ f : Fc, cs = f.vals ∧ FcOk f ∧ FcIn w f := by
  obtain ⟨hl, n, hf⟩ := open_fields Tryd.underlying112 (by kernel_rfl) (by kernel_rfl) h
  obtain ⟨v0, y0, e0, t0, q0⟩ := hf 0 _ rfl
  obtain ⟨v1, y1, e1, t1, _⟩ := hf 1 _ rfl
  obtain ⟨v2, y2, e2, t2, _⟩ := hf 2 _ rfl
  obtain ⟨v3, y3, e3, t3, q3⟩ := hf 3 _ rfl
  obtain ⟨v4, y4, e4, t4, q4⟩ := hf 4 _ rfl
  obtain ⟨v5, y5, e5, t5, q5⟩ := hf 5 _ rfl
  obtain ⟨k0, rfl, w0⟩ := str_field Tryd.underlying9 t0 ⟨fun k hk => hw.1 k (q0.1 k hk), Nat.le_trans q0.2 hw.2⟩
  obtain ⟨k1, rfl, w1⟩ := int_field Tryd.underlying3 t1
  obtain ⟨k2, rfl, w2⟩ := int_field Tryd.underlying3 t2
  obtain ⟨S3, l3, rfl, i3, o3, b3⟩ := open_rows I3.vals I3Ok Tryd.underlying108 (sz := 3) (by kernel_rfl) (by decide) (by rw [show Tryd.prog.bytesOf 134 = 24 by kernel_rfl]; decide) t3 ⟨fun k hk => hw.1 k (q3.1 k hk), Nat.le_trans q3.2 hw.2⟩ open_instr
  obtain ⟨S4, l4, rfl, i4, o4, b4⟩ := open_rows H3.vals H3Ok Tryd.underlying109 (sz := 3) (by kernel_rfl) (by decide) (by rw [show Tryd.prog.bytesOf 137 = 24 by kernel_rfl]; decide) t4 ⟨fun k hk => hw.1 k (q4.1 k hk), Nat.le_trans q4.2 hw.2⟩ open_handler
  obtain ⟨S5, l5, rfl, i5, o5, b5⟩ := open_rows Vr.vals VrOk Tryd.underlying110 (sz := 5) (by kernel_rfl) (by decide) (by rw [show Tryd.prog.bytesOf 140 = 48 by kernel_rfl]; decide) t5 ⟨fun k hk => hw.1 k (q5.1 k hk), Nat.le_trans q5.2 hw.2⟩ open_var
  match cs, hl with
  | [c0, c1, c2, c3, c4, c5], _ =>
    simp only [List.getElem?_cons_zero, List.getElem?_cons_succ, Option.some.injEq] at e0 e1 e2 e3 e4 e5
    subst e0 e1 e2 e3 e4 e5
    exact ⟨⟨k0, k1, k2, l3, l4, l5, S3, S4, S5⟩, rfl, ⟨w0, w1, w2, o3, o4, o5, b3, b4, b5⟩, ⟨i3, i4, i5⟩⟩

theorem open_class (n : Nat) (cs : List Value) (y : DataW H × List MemPlace) (h : DataW.trod enc Tryd.prog w 0 (fun _ => true) true n 63 cs = some y) (hw : (∀ k ∈ y.1.weights Tryd.prog 63, k ≤ reachBytes) ∧ Rows.uptoBulk y.1 ≤ 1048576) : ∃ c : Cl, cs = c.vals ∧ ClOk c ∧ ClIn w c := by
  obtain ⟨hl, n, hf⟩ := open_fields Tryd.underlying63 (by kernel_rfl) (by kernel_rfl) h
  obtain ⟨v0, y0, e0, t0, q0⟩ := hf 0 _ rfl
  obtain ⟨v1, y1, e1, t1, _⟩ := hf 1 _ rfl
  obtain ⟨v2, y2, e2, t2, q2⟩ := hf 2 _ rfl
  obtain ⟨v3, y3, e3, t3, q3⟩ := hf 3 _ rfl
  obtain ⟨v4, y4, e4, t4, q4⟩ := hf 4 _ rfl
  obtain ⟨k0, rfl, w0⟩ := str_field Tryd.underlying9 t0 ⟨fun k hk => hw.1 k (q0.1 k hk), Nat.le_trans q0.2 hw.2⟩
  obtain ⟨k1, rfl, w1⟩ := int_field Tryd.underlying3 t1
  obtain ⟨S2, l2, rfl, i2, o2, b2⟩ := open_rows (fun s : ByteArray => [Value.string s]) stOk Tryd.underlying61 (sz := 1) (by kernel_rfl) (by decide) (by rw [show Tryd.prog.bytesOf 9 = 16 by kernel_rfl]; decide) t2 ⟨fun k hk => hw.1 k (q2.1 k hk), Nat.le_trans q2.2 hw.2⟩ open_str
  obtain ⟨S3, l3, rfl, i3, o3, b3⟩ := open_rows (fun s : ByteArray => [Value.string s]) stOk Tryd.underlying61 (sz := 1) (by kernel_rfl) (by decide) (by rw [show Tryd.prog.bytesOf 9 = 16 by kernel_rfl]; decide) t3 ⟨fun k hk => hw.1 k (q3.1 k hk), Nat.le_trans q3.2 hw.2⟩ open_str
  obtain ⟨S4, l4, rfl, i4, o4, b4⟩ := open_rows (fun n : Int => [Value.int .i64 n]) i64 Tryd.underlying52 (sz := 1) (by kernel_rfl) (by decide) (by rw [show Tryd.prog.bytesOf 3 = 8 by kernel_rfl]; decide) t4 ⟨fun k hk => hw.1 k (q4.1 k hk), Nat.le_trans q4.2 hw.2⟩ open_num
  match cs, hl with
  | [c0, c1, c2, c3, c4], _ =>
    simp only [List.getElem?_cons_zero, List.getElem?_cons_succ, Option.some.injEq] at e0 e1 e2 e3 e4
    subst e0 e1 e2 e3 e4
    exact ⟨⟨k0, k1, l2, l3, l4, S2, S3, S4⟩, rfl, ⟨w0, w1, o2, o3, o4, b2, b3, b4⟩, ⟨i2, i3, i4⟩⟩

/-- An argument code.Image, read as data: what lies in memory. -/
theorem open_image (n : Nat) (cs : List Value) (y : DataW H × List MemPlace) (h : DataW.trod enc Tryd.prog w 0 (fun _ => true) true n 42 cs = some y) (hw : (∀ k ∈ y.1.weights Tryd.prog 42, k ≤ reachBytes) ∧ Rows.uptoBulk y.1 ≤ 1048576) : ∃ m : Im, cs = m.vals ∧ ImOk m ∧ ImIn w m := by
  obtain ⟨hl, n, hf⟩ := open_fields Tryd.underlying42 (by kernel_rfl) (by kernel_rfl) h
  obtain ⟨v0, y0, e0, t0, q0⟩ := hf 0 _ rfl
  obtain ⟨v1, y1, e1, t1, q1⟩ := hf 1 _ rfl
  obtain ⟨v2, y2, e2, t2, q2⟩ := hf 2 _ rfl
  obtain ⟨S0, l0, rfl, i0, o0, b0⟩ := open_rows Fc.vals (fun f => FcOk f ∧ FcIn w f) Tryd.underlying38 (sz := 6) (by kernel_rfl) (by decide) (by rw [show Tryd.prog.bytesOf 112 = 104 by kernel_rfl]; decide) t0 ⟨fun k hk => hw.1 k (q0.1 k hk), Nat.le_trans q0.2 hw.2⟩ open_func
  obtain ⟨S1, l1, rfl, i1, o1, b1⟩ := open_rows Cn.vals CnOk Tryd.underlying39 (sz := 3) (by kernel_rfl) (by decide) (by rw [show Tryd.prog.bytesOf 68 = 32 by kernel_rfl]; decide) t1 ⟨fun k hk => hw.1 k (q1.1 k hk), Nat.le_trans q1.2 hw.2⟩ open_const
  obtain ⟨S2, l2, rfl, i2, o2, b2⟩ := open_rows Cl.vals (fun c => ClOk c ∧ ClIn w c) Tryd.underlying40 (sz := 5) (by kernel_rfl) (by decide) (by rw [show Tryd.prog.bytesOf 63 = 96 by kernel_rfl]; decide) t2 ⟨fun k hk => hw.1 k (q2.1 k hk), Nat.le_trans q2.2 hw.2⟩ open_class
  match cs, hl with
  | [c0, c1, c2], _ =>
    simp only [List.getElem?_cons_zero, List.getElem?_cons_succ, Option.some.injEq] at e0 e1 e2
    subst e0 e1 e2
    exact ⟨⟨l0, l1, l2, S0, S1, S2⟩, rfl, ⟨fun f hf => (o0 f hf).1, fun c hc => (o2 c hc).1, o1, b0, b1, b2⟩, ⟨i0, i1, i2, fun f hf => (o0 f hf).2, fun c hc => (o2 c hc).2⟩⟩
end


/-- The wider ranges. -/
theorem st_wide {s : ByteArray} (h : stOk s) : CodeO.stOk s := by
  unfold stOk at h
  unfold CodeO.stOk
  omega
theorem wide {m : Im} (h : ImOk m) : CodeO.ImOk m :=
  ⟨fun f hf => ⟨st_wide (h.fn f hf).name, (h.fn f hf).params, (h.fn f hf).slots, (h.fn f hf).code, (h.fn f hf).hs, fun x hx => ⟨st_wide ((h.fn f hf).vars x hx).1, ((h.fn f hf).vars x hx).2⟩, (h.fn f hf).lens⟩,
   fun c hc => ⟨st_wide (h.cl c hc).name, (h.cl c hc).above, fun s hs => st_wide ((h.cl c hc).fields s hs), fun s hs => st_wide ((h.cl c hc).names s hs), (h.cl c hc).methods, (h.cl c hc).lens⟩,
   fun c hc => ⟨st_wide (h.cn c hc).1, (h.cn c hc).2⟩, h.lens⟩
end Go.Proofs.YthbkklnahhdgcaaDoor.CodeOb
