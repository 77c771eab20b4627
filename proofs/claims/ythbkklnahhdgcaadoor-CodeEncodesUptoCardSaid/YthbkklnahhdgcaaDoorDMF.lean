/-
  slices.Equal at bytes.
-/
import Derived.Test.YthbkklnahhdgcaaDoorDME
import Derived.Test.YthbkklnahhdgcaaDoorDMC
import Derived.Test.YthbkklnahhdgcaaDoorDCodeO
import Derived.Test.YthbkklnahhdgcaaDoorDMH
namespace Go.Proofs.YthbkklnahhdgcaaDoor.DecH
open Go Go.Proofs Go.RowKit Lib CodeR CodeA CodeB CodeL EncA EncB DecB

theorem bv_ne {x y : UInt8} (h : x ≠ y) : ((x.toNat : Int) != (y.toNat : Int)) = true := by
  simp only [bne_iff_ne, ne_eq, Int.natCast_inj]
  exact fun h2 => h (UInt8.toNat_inj.mp h2)
theorem take_next {l r : List UInt8} {k : Nat} {x : UInt8} (h : l.take k = r.take k) (hx : l[k]? = some x) (hy : r[k]? = some x) : l.take (k + 1) = r.take (k + 1) := by
  rw [List.take_add_one, List.take_add_one, h, hx, hy]

set_option maxRecDepth 100000 in
set_option maxHeartbeats 4000000 in
theorem equal_any (oa ob : Option Addr) (c d : Nat) (l r : List UInt8) (w : World) (hl : l.length ≤ 140737488355328) (hr : r.length ≤ 140737488355328)
    (hc : ∀ (k : Nat) (b : UInt8), l[k]? = some b → ∃ ad, oa = some ad ∧ w.cell? (ad.add k) = some (bv b)) (hd : ∀ (k : Nat) (b : UInt8), r[k]? = some b → ∃ ad, ob = some ad ∧ w.cell? (ad.add k) = some (bv b)) :
    Calls Tryd.prog 67 #[.slice oa l.length c, .slice ob r.length d] w fun e w' => ∃ n, e = .returned (.bool (decide (l = r))) ∧ w' = w.drewN n := by
  by_cases hn : l.length = r.length
  · have hnd : ((l.length : Int) != (r.length : Int)) = false := by rw [hn]; simp
    have A : Aside (l.length = r.length) := hn
    clear hn
    go_enter Tryd.func67, Tryd.ntmps67
    go_wp2
    go_loopw [5, 13] (fun s5 s13 wr => ∃ k n : Nat, s13 = .int .i64 (k : Int) ∧ k ≤ l.length ∧ Aside (l.take k = r.take k) ∧ wr = w.drewN n) (fun _ s13 _ => l.length - (intOf s13).toNat)
    case atStart => exact ⟨0, 0, rfl, Nat.zero_le _, rfl, rfl⟩
    case round =>
      obtain ⟨k, n, rfl, hk, hT, rfl⟩ := hrel
      by_cases hkn : k < l.length
      · obtain ⟨x, hx⟩ : ∃ x, l[k]? = some x := ⟨_, List.getElem?_eq_getElem hkn⟩
        obtain ⟨y, hy⟩ : ∃ y, r[k]? = some y := ⟨_, List.getElem?_eq_getElem (by have := A.out; omega)⟩
        have hkd : decide ((k : Int) < (l.length : Int)) = true := by simp; omega
        have hkr : decide ((k : Int) < (r.length : Int)) = true := by have := A.out; simp; omega
        have hkl : k < r.length := by have := A.out; omega
        obtain ⟨a1, rfl, h1⟩ := hc k x hx
        obtain ⟨a2, rfl, h2⟩ := hd k y hy
        have a4 : wrap64 ((k : Int) + 1) = (k : Int) + 1 := by unfold wrap64; omega
        clear hc hd
        by_cases hxy : x = y
        · subst hxy
          unfold bv at h1 h2
          have hT2 : Aside (l.take (k + 1) = r.take (k + 1)) := take_next hT.out hx hy
          have hxx : ((x.toNat : Int) != (x.toNat : Int)) = false := by simp
          go_wp2_with (go_quiet (fail))
          go_roundw
          case rel => exact ⟨k + 1, _, by simp, by omega, hT2, rfl⟩
          case measure => simp [intOf]; omega
        · have hne := bv_ne hxy
          have hlr : decide (l = r) = false := by
            simp only [decide_eq_false_iff_not]
            rintro rfl
            rw [hx] at hy
            cases hy
            exact hxy rfl
          unfold bv at h1 h2
          go_wp2_with (go_quiet (fail))
          go_ret
          exact ⟨_, by rw [hlr]; rfl, World.drewN_drewN _ _ _⟩
      · obtain rfl : k = l.length := by omega
        have hkd : decide ((l.length : Int) < (l.length : Int)) = false := by simp
        have hlr : decide (l = r) = true := by
          have h1 := hT.out
          rw [List.take_length, A.out, List.take_length] at h1
          simpa using h1
        clear hc hd
        go_wp2_with (go_quiet (fail))
        go_ret
        exact ⟨n, by rw [hlr]; rfl, rfl⟩
  · have hnd : ((l.length : Int) != (r.length : Int)) = true := by simp only [bne_iff_ne, ne_eq, Int.natCast_inj]; exact hn
    have hlr : decide (l = r) = false := by
      simp only [decide_eq_false_iff_not]
      rintro rfl
      exact hn rfl
    go_enter Tryd.func67, Tryd.ntmps67
    go_wp2
    go_ret
    exact ⟨0, by rw [hlr]; rfl, rfl⟩
end Go.Proofs.YthbkklnahhdgcaaDoor.DecH

/-
  What an image's bytes are read back as: the same image (3.3). No program in sight.
-/
namespace Go.Proofs.YthbkklnahhdgcaaDoor.DecR
open Go Go.RowKit CodeR EncA DecA DecB DecC DecD

/-- A reader reads such bytes, wherever they lie, as x. -/
def Rd {α : Type} (f : List UInt8 → Pr α) (x : α) (l : List UInt8) : Prop := ∀ A C, f (A ++ l ++ C) A.length false = (x, A.length + l.length, false)
def I64 (n : Int) : Prop := -9223372036854775808 ≤ n ∧ n ≤ 9223372036854775807
theorem I64.ofNat {n : Nat} (h : n ≤ 9223372036854775807) : I64 (n : Int) := ⟨by omega, by omega⟩

theorem rd_ret {α : Type} (x : α) : Rd (fun _ => ret x) x [] := fun _ _ => rfl
theorem rd_bnd {α β : Type} {f : List UInt8 → Pr α} {g : α → List UInt8 → Pr β} {x : α} {y : β} {l l' : List UInt8} (h : Rd f x l) (k : Rd (g x) y l') : Rd (fun L => bnd (f L) fun a => g a L) y (l ++ l') := by
  intro A C
  have h1 := h A (l' ++ C)
  have h2 := k (A ++ l) C
  simp only [← List.append_assoc] at h1 h2 ⊢
  unfold bnd
  rw [h1]
  simp only
  rw [List.length_append] at h2
  rw [h2, List.length_append]
  simp only [Prod.mk.injEq, and_true, true_and]
  omega
theorem rd_num {n : Int} (h : I64 n) : Rd nP n (num n) := by
  intro A C
  obtain ⟨h1, h2, h3⟩ := num_good (numP_num A C n h.1 h.2)
  unfold nP
  rw [h1, h2, h3, unz_zz]
  rfl
theorem many_good (A C : List UInt8) (n : Nat) (hn : n ≤ C.length) (h : I64 n) : manyV (A ++ num n ++ C) A.length = n ∧ numE (A ++ num n ++ C) A.length = A.length + (num n).length ∧ manyF (A ++ num n ++ C) A.length = false := by
  obtain ⟨h1, h2, h3⟩ := num_good (numP_num A C n h.1 h.2)
  have hx : manyX (A ++ num n ++ C) A.length = false := by
    unfold manyX
    rw [h1, h2, unz_zz]
    simp only [List.length_append, Bool.or_eq_false_iff, decide_eq_false_iff_not]
    omega
  refine ⟨?_, h2, ?_⟩
  · unfold manyV
    rw [hx, h1, unz_zz]
    simp
  · unfold manyF
    rw [h3, hx]
    rfl
theorem sl_len (s : ByteArray) : (sl s).length = s.size := rfl
theorem rd_txt {s : ByteArray} (h : s.size ≤ 9223372036854775807) : Rd tP s (txt s) := by
  intro A C
  have e : A ++ txt s ++ C = A ++ num s.size ++ (sl s ++ C) := by simp [txt]
  obtain ⟨h1, h2, h3⟩ := many_good A (sl s ++ C) s.size (by rw [List.length_append, sl_len]; omega) (I64.ofNat h)
  unfold tP txtV txtE
  rw [e, h1, h2, h3]
  simp only [Bool.false_or, Prod.mk.injEq, and_true]
  refine ⟨?_, by simp [txt, sl_len]; omega⟩
  have e2 : ((A ++ num s.size ++ (sl s ++ C)).drop (A.length + (num s.size).length)) = sl s ++ C := by
    rw [← List.length_append, List.drop_left]
  unfold sub
  rw [e2, ← sl_len, List.take_left]
  rfl
theorem rep_good {α : Type} {one : List UInt8 → Pr α} {e : α → List UInt8} : ∀ (xs : List α), (∀ x ∈ xs, Rd one x (e x)) → ∀ A C, rep (one (A ++ xs.flatMap e ++ C)) xs.length A.length false = (xs, A.length + (xs.flatMap e).length, false)
  | [], _, _, _ => rfl
  | x :: xs, h, A, C => by
    have h1 := h x (List.mem_cons_self ..) A (xs.flatMap e ++ C)
    have h2 := rep_good xs (fun y hy => h y (List.mem_cons_of_mem _ hy)) (A ++ e x) C
    rw [List.length_cons, rep_succ, List.flatMap_cons]
    simp only [← List.append_assoc] at h1 h2 ⊢
    rw [h1]
    simp only
    rw [List.length_append] at h2
    rw [h2, List.length_append]
    simp only [Prod.mk.injEq, and_true, true_and]
    omega
theorem len_flat {α : Type} {e : α → List UInt8} : ∀ (xs : List α), (∀ x ∈ xs, 0 < (e x).length) → xs.length ≤ (xs.flatMap e).length
  | [], _ => Nat.le_refl _
  | x :: xs, h => by
    have h1 := h x (List.mem_cons_self ..)
    have h2 := len_flat xs (fun y hy => h y (List.mem_cons_of_mem _ hy))
    rw [List.flatMap_cons, List.length_append, List.length_cons]
    omega
theorem rd_lst {α : Type} {one : List UInt8 → Pr α} {e : α → List UInt8} {xs : List α} (hl : xs.length ≤ 9223372036854775807) (hp : ∀ x ∈ xs, 0 < (e x).length) (h : ∀ x ∈ xs, Rd one x (e x)) : Rd (fun L => lst L (one L)) xs (num xs.length ++ xs.flatMap e) := by
  intro A C
  have e1 : A ++ (num xs.length ++ xs.flatMap e) ++ C = A ++ num xs.length ++ (xs.flatMap e ++ C) := by simp
  obtain ⟨h1, h2, h3⟩ := many_good A (xs.flatMap e ++ C) xs.length (by rw [List.length_append]; have := len_flat xs hp; omega) (I64.ofNat hl)
  have h4 := rep_good xs h (A ++ num xs.length) C
  unfold lst
  rw [e1]
  show rep _ (manyV _ _) (numE _ _) (false || manyF _ _) = _
  rw [h1, h2, h3]
  simp only [← List.append_assoc] at h4 ⊢
  rw [List.length_append] at h4
  rw [show (false || false) = false from rfl, h4]
  simp only [List.length_append, Prod.mk.injEq, and_true, true_and]
  omega
theorem num_pos (n : Int) : 0 < (num n).length := vb_pos _
theorem txt_pos (s : ByteArray) : 0 < (txt s).length := by
  unfold txt
  rw [List.length_append]
  have := num_pos (s.size : Int)
  omega
theorem nil_app {l : List UInt8} : l ++ [] = l := List.append_nil l

theorem rd_i3 {x : I3} (h0 : I64 x.op) (h1 : I64 x.a) (h2 : I64 x.b) : Rd i3P x (i3 x) := by
  have h := rd_bnd (g := fun a L => bnd (nP L) fun b => bnd (nP L) fun c => ret (⟨a, b, c⟩ : I3)) (rd_num h0) (rd_bnd (g := fun b L => bnd (nP L) fun c => ret (⟨x.op, b, c⟩ : I3)) (rd_num h1) (rd_bnd (g := fun c _ => ret (⟨x.op, x.a, c⟩ : I3)) (rd_num h2) (rd_ret _)))
  simp only [nil_app, ← List.append_assoc] at h
  exact h
theorem rd_h3 {x : H3} (h0 : I64 x.f) (h1 : I64 x.t) (h2 : I64 x.g) : Rd h3P x (h3 x) := by
  have h := rd_bnd (g := fun a L => bnd (nP L) fun b => bnd (nP L) fun c => ret (⟨a, b, c⟩ : H3)) (rd_num h0) (rd_bnd (g := fun b L => bnd (nP L) fun c => ret (⟨x.f, b, c⟩ : H3)) (rd_num h1) (rd_bnd (g := fun c _ => ret (⟨x.f, x.t, c⟩ : H3)) (rd_num h2) (rd_ret _)))
  simp only [nil_app, ← List.append_assoc] at h
  exact h
theorem rd_vr {x : Vr} (hs : x.name.size ≤ 9223372036854775807) (h0 : I64 x.slot) (h1 : I64 x.f) (h2 : I64 x.t) : Rd vrP x (vr x) := by
  have hb : I64 (if x.boxed then 1 else 0) := by split <;> exact ⟨by omega, by omega⟩
  have h := rd_bnd (g := fun s L => bnd (nP L) fun a => bnd (nP L) fun b => bnd (nP L) fun c => bnd (nP L) fun d => ret (⟨s, a, b, c, decide (d = 1)⟩ : Vr)) (rd_txt hs)
    (rd_bnd (g := fun a L => bnd (nP L) fun b => bnd (nP L) fun c => bnd (nP L) fun d => ret (⟨x.name, a, b, c, decide (d = 1)⟩ : Vr)) (rd_num h0)
    (rd_bnd (g := fun b L => bnd (nP L) fun c => bnd (nP L) fun d => ret (⟨x.name, x.slot, b, c, decide (d = 1)⟩ : Vr)) (rd_num h1)
    (rd_bnd (g := fun c L => bnd (nP L) fun d => ret (⟨x.name, x.slot, x.f, c, decide (d = 1)⟩ : Vr)) (rd_num h2)
    (rd_bnd (g := fun d _ => ret (⟨x.name, x.slot, x.f, x.t, decide (d = 1)⟩ : Vr)) (rd_num hb) (rd_ret _)))))
  simp only [nil_app, ← List.append_assoc] at h
  have e : (⟨x.name, x.slot, x.f, x.t, decide ((if x.boxed then (1 : Int) else 0) = 1)⟩ : Vr) = x := by
    cases x with
    | mk a b c d e => cases e <;> rfl
  rw [e] at h
  exact h
/-- A constant that is what it says: no number at a text, no text at a number. -/
def CnN (c : Cn) : Prop := if c.text then c.n = 0 else c.s = ByteArray.empty
theorem rd_cn {c : Cn} (hs : c.s.size ≤ 9223372036854775807) (hn : I64 c.n) (hN : CnN c) : Rd cnP c (cn c) := by
  unfold CnN at hN
  cases c with
  | mk t s n =>
    cases t with
    | false =>
      simp only [Bool.false_eq_true, if_false] at hN
      subst hN
      have h := rd_bnd (g := fun k L => if k = 0 then bnd (nP L) fun n => ret (⟨false, ByteArray.empty, n⟩ : Cn) else if k = 1 then bnd (tP L) fun s => ret ⟨true, s, 0⟩ else fun p _ => (⟨false, ByteArray.empty, 0⟩, p, true)) (y := ⟨false, ByteArray.empty, n⟩) (l' := num n) (rd_num (n := 0) ⟨by omega, by omega⟩) (by
        have h := rd_bnd (g := fun n _ => ret (⟨false, ByteArray.empty, n⟩ : Cn)) (rd_num hn) (rd_ret _)
        rw [nil_app] at h
        exact h)
      exact h
    | true =>
      simp only [if_true] at hN
      subst hN
      have h := rd_bnd (g := fun k L => if k = 0 then bnd (nP L) fun n => ret (⟨false, ByteArray.empty, n⟩ : Cn) else if k = 1 then bnd (tP L) fun s => ret ⟨true, s, 0⟩ else fun p _ => (⟨false, ByteArray.empty, 0⟩, p, true)) (y := ⟨true, s, 0⟩) (l' := txt s) (rd_num (n := 1) ⟨by omega, by omega⟩) (by
        have h := rd_bnd (g := fun s _ => ret (⟨true, s, 0⟩ : Cn)) (rd_txt hs) (rd_ret _)
        rw [nil_app] at h
        exact h)
      exact h
theorem rd_nm {p : ByteArray × Int} (hs : p.1.size ≤ 9223372036854775807) (hn : I64 p.2) : Rd nmP p (nm p) := by
  have h := rd_bnd (g := fun s L => bnd (nP L) fun n => ret (s, n)) (rd_txt hs) (rd_bnd (g := fun n _ => ret (p.1, n)) (rd_num hn) (rd_ret _))
  rw [nil_app] at h
  exact h
def clN (k : Cl) : Cl := ⟨k.name, k.above, k.fields, k.names, k.methods, noSl, noSl, noSl⟩
def fcN (f : Fc) : Fc := ⟨f.name, f.params, f.slots, f.code, f.hs, f.vars, noSl, noSl, noSl⟩
def imN (m : Im) : Im := ⟨m.funcs.map fcN, m.consts, m.classes.map clN, noSl, noSl, noSl⟩
/-- Numbers and texts that a machine's words hold. -/
structure ClR (k : Cl) : Prop where
  nm : k.name.size ≤ 9223372036854775807
  ab : I64 k.above
  nf : k.fields.length ≤ 9223372036854775807
  fs : ∀ s ∈ k.fields, s.size ≤ 9223372036854775807
  nn : k.names.length ≤ 9223372036854775807
  ns : ∀ s ∈ k.names, s.size ≤ 9223372036854775807
  ms : ∀ n ∈ k.methods, I64 n
  eq : k.names.length = k.methods.length
theorem zip_fst {α β : Type} : ∀ (a : List α) (b : List β), a.length = b.length → (a.zip b).map (·.1) = a
  | [], _, _ => rfl
  | x :: a, [], h => by cases h
  | x :: a, y :: b, h => by
    rw [List.zip_cons_cons, List.map_cons, zip_fst a b (by simpa using h)]
theorem zip_snd {α β : Type} : ∀ (a : List α) (b : List β), a.length = b.length → (a.zip b).map (·.2) = b
  | [], [], _ => rfl
  | [], y :: b, h => by cases h
  | x :: a, [], h => by cases h
  | x :: a, y :: b, h => by
    rw [List.zip_cons_cons, List.map_cons, zip_snd a b (by simpa using h)]
theorem rd_cl {k : Cl} (h : ClR k) : Rd clP (clN k) (cl k) := by
  have hz : (k.names.zip k.methods).length = k.names.length := by rw [List.length_zip, ← h.eq, Nat.min_self]
  have hN := rd_lst (one := nmP) (e := EncA.nm) (xs := k.names.zip k.methods) (by rw [hz]; exact h.nn) (fun p _ => by
    unfold EncA.nm
    rw [List.length_append]
    have := txt_pos p.1
    omega) (fun p hp => rd_nm (h.ns p.1 (List.of_mem_zip hp).1) (h.ms p.2 (List.of_mem_zip hp).2))
  rw [hz] at hN
  have h := rd_bnd (g := fun s L => bnd (nP L) fun a => bnd (lst L (tP L)) fun fs => bnd (lst L (nmP L)) fun ns => ret (⟨s, a, fs, ns.map (·.1), ns.map (·.2), noSl, noSl, noSl⟩ : Cl)) (rd_txt h.nm)
    (rd_bnd (g := fun a L => bnd (lst L (tP L)) fun fs => bnd (lst L (nmP L)) fun ns => ret (⟨k.name, a, fs, ns.map (·.1), ns.map (·.2), noSl, noSl, noSl⟩ : Cl)) (rd_num h.ab)
    (rd_bnd (g := fun fs L => bnd (lst L (nmP L)) fun ns => ret (⟨k.name, k.above, fs, ns.map (·.1), ns.map (·.2), noSl, noSl, noSl⟩ : Cl)) (rd_lst (one := tP) (e := txt) h.nf (fun s _ => txt_pos s) (fun s hs => rd_txt (h.fs s hs)))
    (rd_bnd (g := fun ns _ => ret (⟨k.name, k.above, k.fields, ns.map (·.1), ns.map (·.2), noSl, noSl, noSl⟩ : Cl)) hN (rd_ret _))))
  rw [zip_fst _ _ ‹ClR k›.eq, zip_snd _ _ ‹ClR k›.eq] at h
  simp only [nil_app, ← List.append_assoc] at h
  exact h
structure FcR (f : Fc) : Prop where
  nm : f.name.size ≤ 9223372036854775807
  pa : I64 f.params
  so : I64 f.slots
  nc : f.code.length ≤ 9223372036854775807
  cs : ∀ x ∈ f.code, I64 x.op ∧ I64 x.a ∧ I64 x.b
  nh : f.hs.length ≤ 9223372036854775807
  hs : ∀ x ∈ f.hs, I64 x.f ∧ I64 x.t ∧ I64 x.g
  nv : f.vars.length ≤ 9223372036854775807
  vs : ∀ x ∈ f.vars, x.name.size ≤ 9223372036854775807 ∧ I64 x.slot ∧ I64 x.f ∧ I64 x.t
theorem rd_fc {f : Fc} (h : FcR f) : Rd fcP (fcN f) (fc f) := by
  have h := rd_bnd (g := fun s L => bnd (nP L) fun a => bnd (nP L) fun b => bnd (lst L (i3P L)) fun cs => bnd (lst L (h3P L)) fun hs => bnd (lst L (vrP L)) fun vs => ret (⟨s, a, b, cs, hs, vs, noSl, noSl, noSl⟩ : Fc)) (rd_txt h.nm)
    (rd_bnd (g := fun a L => bnd (nP L) fun b => bnd (lst L (i3P L)) fun cs => bnd (lst L (h3P L)) fun hs => bnd (lst L (vrP L)) fun vs => ret (⟨f.name, a, b, cs, hs, vs, noSl, noSl, noSl⟩ : Fc)) (rd_num h.pa)
    (rd_bnd (g := fun b L => bnd (lst L (i3P L)) fun cs => bnd (lst L (h3P L)) fun hs => bnd (lst L (vrP L)) fun vs => ret (⟨f.name, f.params, b, cs, hs, vs, noSl, noSl, noSl⟩ : Fc)) (rd_num h.so)
    (rd_bnd (g := fun cs L => bnd (lst L (h3P L)) fun hs => bnd (lst L (vrP L)) fun vs => ret (⟨f.name, f.params, f.slots, cs, hs, vs, noSl, noSl, noSl⟩ : Fc)) (rd_lst (one := i3P) (e := i3) h.nc (fun x _ => by unfold i3; simp only [List.length_append]; have := num_pos x.op; omega) (fun x hx => rd_i3 (h.cs x hx).1 (h.cs x hx).2.1 (h.cs x hx).2.2))
    (rd_bnd (g := fun hs L => bnd (lst L (vrP L)) fun vs => ret (⟨f.name, f.params, f.slots, f.code, hs, vs, noSl, noSl, noSl⟩ : Fc)) (rd_lst (one := h3P) (e := h3) h.nh (fun x _ => by unfold h3; simp only [List.length_append]; have := num_pos x.f; omega) (fun x hx => rd_h3 (h.hs x hx).1 (h.hs x hx).2.1 (h.hs x hx).2.2))
    (rd_bnd (g := fun vs _ => ret (⟨f.name, f.params, f.slots, f.code, f.hs, vs, noSl, noSl, noSl⟩ : Fc)) (rd_lst (one := vrP) (e := vr) h.nv (fun x _ => by unfold vr; simp only [List.length_append]; have := txt_pos x.name; omega) (fun x hx => rd_vr (h.vs x hx).1 (h.vs x hx).2.1 (h.vs x hx).2.2.1 (h.vs x hx).2.2.2)) (rd_ret _))))))
  simp only [nil_app, ← List.append_assoc] at h
  exact h
structure ImR (m : Im) : Prop where
  nc : m.consts.length ≤ 9223372036854775807
  cs : ∀ c ∈ m.consts, c.s.size ≤ 9223372036854775807 ∧ I64 c.n ∧ CnN c
  nk : m.classes.length ≤ 9223372036854775807
  ks : ∀ k ∈ m.classes, ClR k
  nf : m.funcs.length ≤ 9223372036854775807
  fs : ∀ f ∈ m.funcs, FcR f
theorem flat_map {α : Type} (g : α → α) (e : α → List UInt8) (h : ∀ x, e (g x) = e x) : ∀ xs : List α, (xs.map g).flatMap e = xs.flatMap e
  | [] => rfl
  | x :: xs => by rw [List.map_cons, List.flatMap_cons, List.flatMap_cons, h, flat_map g e h xs]
theorem body_imN (m : Im) : body (imN m) = body m := by
  unfold body imN
  simp only [List.length_map]
  rw [flat_map clN cl (fun _ => rfl), flat_map fcN fc (fun _ => rfl)]
theorem enc_imN (m : Im) : enc (imN m) = enc m := by
  unfold enc
  rw [body_imN]
theorem cl_pos (k : Cl) : 0 < (cl k).length := by
  unfold cl
  simp only [List.length_append]
  have := txt_pos k.name
  omega
theorem fc_pos (k : Fc) : 0 < (fc k).length := by
  unfold fc
  simp only [List.length_append]
  have := txt_pos k.name
  omega
theorem cn_pos (k : Cn) : 0 < (cn k).length := by
  unfold cn
  split <;> simp only [List.length_append]
  · have := txt_pos k.s; omega
  · have := num_pos k.n; omega
/-- An image is read back from its bytes, but for where its slices lie. -/
theorem rd_im {m : Im} (h : ImR m) (C : List UInt8) : imP (body m ++ C) 4 false = (imN m, (body m).length, false) := by
  have hk := rd_lst (one := clP) (e := cl) (xs := m.classes.map clN) (by rw [List.length_map]; exact h.nk) (fun x _ => cl_pos x) (fun x hx => by
    obtain ⟨y, hy, rfl⟩ := List.mem_map.mp hx
    exact rd_cl (h.ks y hy))
  have hf := rd_lst (one := fcP) (e := fc) (xs := m.funcs.map fcN) (by rw [List.length_map]; exact h.nf) (fun x _ => fc_pos x) (fun x hx => by
    obtain ⟨y, hy, rfl⟩ := List.mem_map.mp hx
    exact rd_fc (h.fs y hy))
  have hh := rd_bnd (g := fun cs L => bnd (lst L (clP L)) fun ks => bnd (lst L (fcP L)) fun fs => ret (⟨fs, cs, ks, noSl, noSl, noSl⟩ : Im)) (rd_lst (one := cnP) (e := cn) h.nc (fun x _ => cn_pos x) (fun x hx => rd_cn (h.cs x hx).1 (h.cs x hx).2.1 (h.cs x hx).2.2))
    (rd_bnd (g := fun ks L => bnd (lst L (fcP L)) fun fs => ret (⟨fs, m.consts, ks, noSl, noSl, noSl⟩ : Im)) hk
    (rd_bnd (g := fun fs _ => ret (⟨fs, m.consts, m.classes.map clN, noSl, noSl, noSl⟩ : Im)) hf (rd_ret _)))
  have h2 := hh head C
  rw [flat_map clN cl (fun _ => rfl), flat_map fcN fc (fun _ => rfl), List.length_map, List.length_map, nil_app] at h2
  have e : head ++ (num m.consts.length ++ m.consts.flatMap cn ++ (num m.classes.length ++ m.classes.flatMap cl ++ (num m.funcs.length ++ m.funcs.flatMap fc))) = body m := by
    unfold body
    simp only [List.append_assoc]
  rw [e] at h2
  have e3 : head.length + (num m.consts.length ++ m.consts.flatMap cn ++ (num m.classes.length ++ m.classes.flatMap cl ++ (num m.funcs.length ++ m.funcs.flatMap fc))).length = (body m).length := by
    rw [← List.length_append, e]
  rw [e3] at h2
  exact h2
end Go.Proofs.YthbkklnahhdgcaaDoor.DecR

/-
  What is known of an image that was read from bytes that were so (3.3): its numbers and texts are a machine's, and its own bytes are not many more. No program in sight.
-/
namespace Go.Proofs.YthbkklnahhdgcaaDoor.DecG
open Go Go.RowKit CodeR CodeK CodeO EncA DecA DecB DecC DecD DecR

/-- A reader moves on, keeps what is not so; and where all was so, P holds of what it read and of how many bytes that took. -/
def Gd {α : Type} (L : List UInt8) (f : Pr α) (P : α → Nat → Prop) : Prop := ∀ p b, p ≤ L.length → p ≤ (f p b).2.1 ∧ (f p b).2.1 ≤ L.length ∧ (b = true → (f p b).2.2 = true) ∧ ((f p b).2.2 = false → P (f p b).1 ((f p b).2.1 - p))
section
variable {L : List UInt8}
theorem gd_ret {α : Type} {x : α} {P : α → Nat → Prop} (h : P x 0) : Gd L (ret x) P := by
  intro p b hp
  exact ⟨Nat.le_refl _, hp, fun h => h, fun _ => by simpa [ret] using h⟩
theorem gd_bnd {α β : Type} {f : Pr α} {g : α → Pr β} {P : α → Nat → Prop} {Q : β → Nat → Prop} (h : Gd L f P) (k : ∀ x, Gd L (g x) (fun y k => ∀ j, P x j → Q y (j + k))) : Gd L (bnd f g) Q := by
  intro p b hp
  obtain ⟨h1, h2, h3, h4⟩ := h p b hp
  obtain ⟨k1, k2, k3, k4⟩ := k (f p b).1 (f p b).2.1 (f p b).2.2 h2
  refine ⟨Nat.le_trans h1 k1, k2, fun hb => k3 (h3 hb), fun hf => ?_⟩
  have hf2 : (f p b).2.2 = false := by
    cases hc : (f p b).2.2 with
    | false => rfl
    | true =>
      have h5 := k3 hc
      have h6 : (g (f p b).1 (f p b).2.1 (f p b).2.2).2.2 = false := hf
      rw [h5] at h6
      cases h6
  have h7 := k4 hf _ (h4 hf2)
  have e : (f p b).2.1 - p + ((g (f p b).1 (f p b).2.1 (f p b).2.2).2.1 - (f p b).2.1) = (g (f p b).1 (f p b).2.1 (f p b).2.2).2.1 - p := by omega
  rw [e] at h7
  exact h7
theorem gd_mono {α : Type} {f : Pr α} {P Q : α → Nat → Prop} (h : Gd L f P) (hPQ : ∀ x k, P x k → Q x k) : Gd L f Q := by
  intro p b hp
  obtain ⟨h1, h2, h3, h4⟩ := h p b hp
  exact ⟨h1, h2, h3, fun hf => hPQ _ _ (h4 hf)⟩
theorem numG_good (L : List UInt8) : ∀ (f j u p : Nat), (numG L f j u p).2.2 = true → p < (numG L f j u p).2.1 ∧ (numG L f j u p).1 < 18446744073709551616
  | 0, _, _, _, h => by cases h
  | f + 1, j, u, p, h => by
    unfold numG at h ⊢
    cases hx : L[p]? with
    | none => rw [hx] at h; cases h
    | some x =>
      rw [hx] at h
      simp only at h ⊢
      split
      · exact ⟨Nat.lt_succ_self p, Nat.mod_lt _ (by decide)⟩
      · rename_i hn
        rw [if_neg hn] at h
        have := numG_good L f (j + 1) _ (p + 1) h
        exact ⟨by omega, this.2⟩
theorem unz_i64 {u : Nat} (h : u < 18446744073709551616) : I64 (unz u) := by
  unfold unz I64
  split <;> omega
theorem num_facts (p : Nat) (hp : p ≤ L.length) : p ≤ numE L p ∧ numE L p ≤ L.length ∧ (numF L p = false → p < numE L p) ∧ I64 (numV L p) := by
  have h := numG_le L 10 0 0 p hp
  refine ⟨h.2, h.1, fun hf => ?_, ?_⟩
  · have h2 : (numP L p).2.2 = true := by
      unfold numF at hf
      cases hc : (numP L p).2.2 with
      | true => rfl
      | false => rw [hc] at hf; cases hf
    exact (numG_good L 10 0 0 p h2).1
  · unfold numV
    split
    · rename_i h2
      exact unz_i64 (numG_good L 10 0 0 p h2).2
    · exact ⟨by omega, by omega⟩
theorem or_false {a b : Bool} (h : (a || b) = false) : a = false ∧ b = false := by
  cases a <;> cases b <;> simp_all
theorem gd_num : Gd L (nP L) (fun n k => I64 n ∧ 1 ≤ k) := by
  intro p b hp
  obtain ⟨h1, h2, h3, h4⟩ := num_facts p hp
  refine ⟨h1, h2, fun hb => by subst hb; rfl, fun hf => ⟨h4, ?_⟩⟩
  have := h3 (or_false hf).2
  show 1 ≤ numE L p - p
  omega
theorem many_facts (p : Nat) (hp : p ≤ L.length) (hf : manyF L p = false) : p < numE L p ∧ numE L p + manyV L p ≤ L.length := by
  obtain ⟨h1, h2, h3, _⟩ := num_facts p hp
  exact ⟨h3 (or_false hf).1, many_le L p hp⟩
theorem sub_size (p n : Nat) (h : p + n ≤ L.length) : (sub L p n).size = n := by
  show ((L.drop p).take n).toArray.size = n
  simp
  omega
theorem gd_txt : Gd L (tP L) (fun s k => 1 ≤ k ∧ s.size + 1 ≤ k) := by
  intro p b hp
  obtain ⟨h1, h2, h3, h4⟩ := num_facts p hp
  have hm := many_le L p hp
  refine ⟨?_, ?_, fun hb => by subst hb; rfl, fun hf => ?_⟩
  · show p ≤ numE L p + manyV L p
    omega
  · exact hm
  · have h5 := many_facts p hp (or_false hf).2
    have h6 : (txtV L p).size = manyV L p := sub_size _ _ hm
    show 1 ≤ txtE L p - p ∧ (txtV L p).size + 1 ≤ txtE L p - p
    rw [h6]
    unfold txtE
    omega
theorem gd_rep {α : Type} {one : Pr α} {P : α → Nat → Prop} {e : α → Nat} {c : Nat} (h : Gd L one P) (hc : ∀ x k, P x k → c ≤ k ∧ e x ≤ 10 * k) : ∀ n, Gd L (rep one n) (fun xs k => xs.length ≤ n ∧ c * xs.length ≤ k ∧ (xs.map e).sum ≤ 10 * k ∧ ∀ x ∈ xs, ∃ j, j ≤ k ∧ P x j)
  | 0 => by
    intro p b hp
    exact ⟨Nat.le_refl _, hp, fun h => h, fun _ => by simp [rep]⟩
  | n + 1 => by
    intro p b hp
    cases b with
    | true =>
      rw [rep_bad]
      exact ⟨Nat.le_refl _, hp, fun _ => rfl, fun h => by cases h⟩
    | false =>
      obtain ⟨h1, h2, h3, h4⟩ := h p false hp
      obtain ⟨k1, k2, k3, k4⟩ := gd_rep h hc n (one p false).2.1 (one p false).2.2 h2
      rw [rep_succ]
      refine ⟨Nat.le_trans h1 k1, k2, fun hb => (by cases hb), fun hf => ?_⟩
      have hf2 : (one p false).2.2 = false := by
        cases hc2 : (one p false).2.2 with
        | false => rfl
        | true =>
          have h5 := k3 hc2
          have h6 : (rep one n (one p false).2.1 (one p false).2.2).2.2 = false := hf
          rw [h5] at h6
          cases h6
      have hP := h4 hf2
      obtain ⟨m1, m2, m3, m4⟩ := k4 hf
      obtain ⟨c1, c2⟩ := hc _ _ hP
      simp only [List.length_cons, List.map_cons, List.sum_cons, List.mem_cons]
      refine ⟨by omega, ?_, ?_, ?_⟩
      · rw [Nat.mul_succ]; omega
      · omega
      · rintro x (rfl | hx)
        · exact ⟨_, by omega, hP⟩
        · obtain ⟨j, hj, hp⟩ := m4 x hx
          exact ⟨j, by omega, hp⟩
theorem gd_lst {α : Type} {one : Pr α} {P : α → Nat → Prop} {e : α → Nat} {c : Nat} (h : Gd L one P) (hc : ∀ x k, P x k → c ≤ k ∧ e x ≤ 10 * k) : Gd L (lst L one) (fun xs k => 1 ≤ k ∧ xs.length ≤ L.length ∧ c * xs.length + 1 ≤ k ∧ (xs.map e).sum + 10 ≤ 10 * k ∧ ∀ x ∈ xs, ∃ j, j ≤ k ∧ P x j) := by
  intro p b hp
  obtain ⟨h1, h2, h3, h4⟩ := num_facts p hp
  obtain ⟨k1, k2, k3, k4⟩ := gd_rep h hc (manyV L p) (numE L p) (b || manyF L p) h2
  refine ⟨Nat.le_trans h1 k1, k2, fun hb => k3 (by subst hb; rfl), fun hf => ?_⟩
  have hf2 : (b || manyF L p) = false := by
    cases hc2 : (b || manyF L p) with
    | false => rfl
    | true =>
      have h5 := k3 hc2
      have h6 : (rep one (manyV L p) (numE L p) (b || manyF L p)).2.2 = false := hf
      rw [h5] at h6
      cases h6
  have h5 := many_facts p hp (or_false hf2).2
  obtain ⟨m1, m2, m3, m4⟩ := k4 hf
  have hl := many_len L p hp
  show 1 ≤ (rep one (manyV L p) (numE L p) (b || manyF L p)).2.1 - p ∧ (rep one (manyV L p) (numE L p) (b || manyF L p)).1.length ≤ L.length ∧ c * (rep one (manyV L p) (numE L p) (b || manyF L p)).1.length + 1 ≤ (rep one (manyV L p) (numE L p) (b || manyF L p)).2.1 - p ∧ ((rep one (manyV L p) (numE L p) (b || manyF L p)).1.map e).sum + 10 ≤ 10 * ((rep one (manyV L p) (numE L p) (b || manyF L p)).2.1 - p) ∧ ∀ x ∈ (rep one (manyV L p) (numE L p) (b || manyF L p)).1, ∃ j, j ≤ (rep one (manyV L p) (numE L p) (b || manyF L p)).2.1 - p ∧ P x j
  refine ⟨by omega, by omega, by omega, by omega, fun x hx => ?_⟩
  obtain ⟨j, hj, hp⟩ := m4 x hx
  exact ⟨j, by omega, hp⟩
end

/-! ### lengths of an image's bytes -/
theorem num10 {n : Int} (h : I64 n) : (num n).length ≤ 10 := num_len h.1 h.2
theorem nat10 {n : Nat} (h : n ≤ 100000) : (num (n : Int)).length ≤ 10 := num_len (by omega) (by omega)
theorem txt10 {s : ByteArray} (h : s.size ≤ 100000) : (txt s).length ≤ s.size + 10 := by
  unfold txt
  rw [List.length_append, sl_len]
  have := nat10 h
  omega
theorem flat_len {α : Type} (e : α → List UInt8) : ∀ xs : List α, (xs.flatMap e).length = (xs.map fun x => (e x).length).sum
  | [] => rfl
  | x :: xs => by
    rw [List.flatMap_cons, List.length_append, flat_len e xs]
    rfl

section
variable {L : List UInt8}
def i3G (x : I3) (k : Nat) : Prop := I3Ok x ∧ 1 ≤ k ∧ (i3 x).length ≤ 10 * k
theorem gd_i3 : Gd L (i3P L) i3G := by
  refine gd_bnd gd_num fun a => gd_bnd gd_num fun b => gd_bnd gd_num fun c => gd_ret ?_
  rintro j3 ⟨h3, e3⟩ j2 ⟨h2, e2⟩ j1 ⟨h1, e1⟩
  refine ⟨⟨h1, h2, h3⟩, by omega, ?_⟩
  unfold i3
  simp only [List.length_append]
  have a1 := num10 h1
  have a2 := num10 h2
  have a3 := num10 h3
  omega
def h3G (x : H3) (k : Nat) : Prop := H3Ok x ∧ 1 ≤ k ∧ (h3 x).length ≤ 10 * k
theorem gd_h3 : Gd L (h3P L) h3G := by
  refine gd_bnd gd_num fun a => gd_bnd gd_num fun b => gd_bnd gd_num fun c => gd_ret ?_
  rintro j3 ⟨h3, e3⟩ j2 ⟨h2, e2⟩ j1 ⟨h1, e1⟩
  refine ⟨⟨h1, h2, h3⟩, by omega, ?_⟩
  unfold EncA.h3
  simp only [List.length_append]
  have a1 := num10 h1
  have a2 := num10 h2
  have a3 := num10 h3
  omega
end
theorem zip_maps (l : List (ByteArray × Int)) : (l.map (·.1)).zip (l.map (·.2)) = l := by
  induction l with
  | nil => rfl
  | cons x l ih => simp [ih]
section
variable {L : List UInt8} (hL : L.length ≤ 100000)
include hL
theorem gd_txtL : Gd L (tP L) (fun s k => 1 ≤ k ∧ stOk s ∧ (txt s).length ≤ 10 * k) := by
  intro p b hp
  obtain ⟨h1, h2, h3, h4⟩ := gd_txt (L := L) p b hp
  refine ⟨h1, h2, h3, fun hf => ?_⟩
  obtain ⟨k1, k2⟩ := h4 hf
  have := txt10 (s := (tP L p b).1) (by omega)
  exact ⟨k1, by unfold stOk; omega, by omega⟩
def vrG (x : Vr) (k : Nat) : Prop := VrOk x ∧ 1 ≤ k ∧ (vr x).length ≤ 10 * k
theorem gd_vr : Gd L (vrP L) vrG := by
  refine gd_bnd (gd_txtL hL) fun s => gd_bnd gd_num fun a => gd_bnd gd_num fun b => gd_bnd gd_num fun c => gd_bnd gd_num fun d => gd_ret ?_
  rintro j5 ⟨h5, e5⟩ j4 ⟨h4, e4⟩ j3 ⟨h3, e3⟩ j2 ⟨h2, e2⟩ j1 ⟨e1, h1, t1⟩
  refine ⟨⟨h1, h2, h3, h4⟩, by omega, ?_⟩
  unfold vr
  simp only [List.length_append]
  have a2 := num10 h2
  have a3 := num10 h3
  have a4 := num10 h4
  have a5 : ∀ t : Bool, (num (if t = true then (1 : Int) else 0)).length ≤ 10 := by
    intro t
    cases t <;> exact num_len (by decide) (by decide)
  have a6 := a5 (decide (d = 1))
  omega
def cnG (x : Cn) (k : Nat) : Prop := CnOk x ∧ 1 ≤ k ∧ (cn x).length ≤ 10 * k
theorem gd_cn : Gd L (cnP L) cnG := by
  refine gd_bnd gd_num fun k => ?_
  split
  · refine gd_bnd gd_num fun n => gd_ret ?_
    rintro j2 ⟨h2, e2⟩ j1 ⟨h1, e1⟩
    refine ⟨⟨(by decide : (0 : Nat) ≤ 140737488355328), h2⟩, by omega, ?_⟩
    unfold cn
    have a2 := num10 h2
    have a1 : (num 0).length ≤ 10 := num_len (by decide) (by decide)
    simp only [Bool.false_eq_true, if_false, List.length_append]
    omega
  · split
    · refine gd_bnd (gd_txtL hL) fun s => gd_ret ?_
      rintro j2 ⟨e2, h2, t2⟩ j1 ⟨h1, e1⟩
      refine ⟨⟨h2, (show i64 0 from ⟨by decide, by decide⟩)⟩, by omega, ?_⟩
      unfold cn
      have a1 : (num 1).length ≤ 10 := num_len (by decide) (by decide)
      simp only [if_true, List.length_append]
      omega
    · intro p b hp
      exact ⟨Nat.le_refl _, hp, fun _ => rfl, fun h => by cases h⟩
theorem gd_nm : Gd L (nmP L) (fun x k => 2 ≤ k ∧ stOk x.1 ∧ I64 x.2 ∧ (nm x).length ≤ 10 * k) := by
  refine gd_bnd (gd_txtL hL) fun s => gd_bnd gd_num fun n => gd_ret ?_
  rintro j2 ⟨h2, e2⟩ j1 ⟨e1, h1, t1⟩
  refine ⟨by omega, h1, h2, ?_⟩
  unfold nm
  have a2 := num10 h2
  simp only [List.length_append]
  omega
def clG (x : Cl) (k : Nat) : Prop := ClOk x ∧ 1 ≤ k ∧ x.names.length = x.methods.length ∧ x.fields.length + x.names.length + x.methods.length ≤ k ∧ (cl x).length ≤ 10 * k
theorem gd_cl : Gd L (clP L) clG := by
  refine gd_bnd (gd_txtL hL) fun s => gd_bnd gd_num fun a => gd_bnd (gd_lst (c := 1) (e := fun s => (txt s).length) (gd_txtL hL) (fun x k h => ⟨h.1, h.2.2⟩)) fun fs => gd_bnd (gd_lst (c := 2) (e := fun x => (nm x).length) (gd_nm hL) (fun x k h => ⟨h.1, h.2.2.2⟩)) fun ns => gd_ret ?_
  rintro j4 ⟨e4, l4, c4, t4, h4⟩ j3 ⟨e3, l3, c3, t3, h3⟩ j2 ⟨h2, e2⟩ j1 ⟨e1, h1, t1⟩
  refine ⟨⟨h1, h2, fun s hs => (h3 s hs).elim fun _ h => h.2.2.1, fun s hs => ?_, fun n hn => ?_, ?_⟩, by omega, by simp, by simp only [List.length_map]; omega, ?_⟩
  · obtain ⟨x, hx, rfl⟩ := List.mem_map.mp hs
    exact (h4 x hx).elim fun _ h => h.2.2.1
  · obtain ⟨x, hx, rfl⟩ := List.mem_map.mp hn
    exact (h4 x hx).elim fun _ h => h.2.2.2.1
  · simp only [List.length_map]
    omega
  · unfold cl
    simp only [List.length_append, zip_maps, flat_len, List.length_map]
    have a2 := num10 h2
    have a3 := nat10 (n := fs.length) (by omega)
    have a4 := nat10 (n := ns.length) (by omega)
    omega
def fcG (x : Fc) (k : Nat) : Prop := FcOk x ∧ 1 ≤ k ∧ x.code.length + x.hs.length + x.vars.length ≤ k ∧ (fc x).length ≤ 10 * k
theorem gd_fc : Gd L (fcP L) fcG := by
  refine gd_bnd (gd_txtL hL) fun s => gd_bnd gd_num fun a => gd_bnd gd_num fun b => gd_bnd (gd_lst (c := 1) (e := fun s => (i3 s).length) gd_i3 (fun x k h => ⟨h.2.1, h.2.2⟩)) fun cs => gd_bnd (gd_lst (c := 1) (e := fun x => (h3 x).length) gd_h3 (fun x k h => ⟨h.2.1, h.2.2⟩)) fun hs => gd_bnd (gd_lst (c := 1) (e := fun x => (vr x).length) (gd_vr hL) (fun x k h => ⟨h.2.1, h.2.2⟩)) fun vs => gd_ret ?_
  rintro j6 ⟨e6, l6, c6, t6, h6⟩ j5 ⟨e5, l5, c5, t5, h5⟩ j4 ⟨e4, l4, c4, t4, h4⟩ j3 ⟨h3, e3⟩ j2 ⟨h2, e2⟩ j1 ⟨e1, h1, t1⟩
  refine ⟨⟨h1, h2, h3, fun s hs => (h4 s hs).elim fun _ h => h.2.1, fun s hs => (h5 s hs).elim fun _ h => h.2.1, fun s hs => (h6 s hs).elim fun _ h => h.2.1, ?_⟩, by omega, by simp only; omega, ?_⟩
  · simp only
    omega
  · unfold fc
    simp only [List.length_append, flat_len]
    have a2 := num10 h2
    have a3 := num10 h3
    have a4 := nat10 (n := cs.length) (by omega)
    have a5 := nat10 (n := hs.length) (by omega)
    have a6 := nat10 (n := vs.length) (by omega)
    omega
/-- What is known of an image that was read well, out of k bytes. -/
structure ImG (m : Im) (k : Nat) : Prop where
  ok : ImOk m
  names : ∀ c ∈ m.classes, c.names.length = c.methods.length
  fs : ∀ f ∈ m.funcs, f.code.length + f.hs.length + f.vars.length ≤ k
  cs : ∀ x ∈ m.classes, x.fields.length + x.names.length + x.methods.length ≤ k
  len : (body m).length ≤ 10 * k + 4
theorem gd_im : Gd L (imP L) ImG := by
  refine gd_bnd (gd_lst (c := 1) (e := fun s => (cn s).length) (gd_cn hL) (fun x k h => ⟨h.2.1, h.2.2⟩)) fun cs => gd_bnd (gd_lst (c := 1) (e := fun x => (cl x).length) (gd_cl hL) (fun x k h => ⟨h.2.1, h.2.2.2.2⟩)) fun ks => gd_bnd (gd_lst (c := 1) (e := fun x => (fc x).length) (gd_fc hL) (fun x k h => ⟨h.2.1, h.2.2.2⟩)) fun fs => gd_ret ?_
  rintro j6 ⟨e6, l6, c6, t6, h6⟩ j5 ⟨e5, l5, c5, t5, h5⟩ j4 ⟨e4, l4, c4, t4, h4⟩
  refine ⟨⟨fun s hs => (h6 s hs).elim fun _ h => h.2.1, fun s hs => (h5 s hs).elim fun _ h => h.2.1, fun s hs => (h4 s hs).elim fun _ h => h.2.1, ?_⟩, fun s hs => (h5 s hs).elim fun _ h => h.2.2.2.1, fun s hs => (h6 s hs).elim fun _ h => by have := h.1; have := h.2.2.2.1; omega, fun s hs => (h5 s hs).elim fun _ h => by have := h.1; have := h.2.2.2.2.1; omega, ?_⟩
  · simp only
    omega
  · unfold body
    simp only [List.length_append, flat_len]
    have a4 := nat10 (n := cs.length) (by omega)
    have a5 := nat10 (n := ks.length) (by omega)
    have a6 := nat10 (n := fs.length) (by omega)
    have a7 : head.length = 4 := rfl
    omega
end
end Go.Proofs.YthbkklnahhdgcaaDoor.DecG

/-
  Images of the same data: the same bytes, the same ranges. No program in sight.
-/
namespace Go.Proofs.YthbkklnahhdgcaaDoor.DecP
open Go Go.RowKit CodeR CodeS CodeK CodeO EncA DecR DecG

theorem flat_same {α : Type} {R : α → α → Prop} {e : α → List UInt8} (he : ∀ a b, R a b → e a = e b) {l k : List α} (h : All2 R l k) : l.flatMap e = k.flatMap e := by
  induction h with
  | nil => rfl
  | cons h1 _ ih => rw [List.flatMap_cons, List.flatMap_cons, he _ _ h1, ih]
theorem mem_same {α : Type} {R : α → α → Prop} {l k : List α} (h : All2 R l k) {y : α} (hy : y ∈ k) : ∃ x ∈ l, R x y := by
  obtain ⟨i, hi⟩ := List.mem_iff_getElem?.mp hy
  obtain ⟨x, hx, hr⟩ := h.symm.get hi
  exact ⟨x, List.mem_of_getElem? hx, hr⟩
theorem cl_same {c d : Cl} (h : ClSame c d) : cl c = cl d := by
  unfold cl
  rw [h.name, h.above, h.fields, h.names, h.methods]
theorem fc_same {c d : Fc} (h : FcSame c d) : fc c = fc d := by
  unfold fc
  rw [h.name, h.params, h.slots, h.code, h.hs, h.vars]
theorem body_same {m k : Im} (h : ImSame m k) : body m = body k := by
  unfold body
  rw [h.consts, h.classes.length, h.funcs.length, flat_same (e := cl) (fun _ _ => cl_same) h.classes, flat_same (e := fc) (fun _ _ => fc_same) h.funcs]
theorem enc_same {m k : Im} (h : ImSame m k) : enc m = enc k := by
  unfold enc
  rw [body_same h]
theorem clOk_same {c d : Cl} (h : ClSame c d) (ho : ClOk c) : ClOk d :=
  ⟨h.name ▸ ho.name, h.above ▸ ho.above, h.fields ▸ ho.fields, h.names ▸ ho.names, h.methods ▸ ho.methods, by rw [← h.fields, ← h.names, ← h.methods]; exact ho.lens⟩
theorem fcOk_same {c d : Fc} (h : FcSame c d) (ho : FcOk c) : FcOk d :=
  ⟨h.name ▸ ho.name, h.params ▸ ho.params, h.slots ▸ ho.slots, h.code ▸ ho.code, h.hs ▸ ho.hs, h.vars ▸ ho.vars, by rw [← h.code, ← h.hs, ← h.vars]; exact ho.lens⟩
theorem imOk_same {m k : Im} (h : ImSame m k) (ho : ImOk m) : ImOk k := by
  refine ⟨fun f hf => ?_, fun c hc => ?_, fun c hc => ho.cn c (by rw [h.consts]; exact hc), by rw [← h.funcs.length, ← h.consts, ← h.classes.length]; exact ho.lens⟩
  · obtain ⟨g, hg, hs⟩ := mem_same h.funcs hf
    exact fcOk_same hs (ho.fn g hg)
  · obtain ⟨g, hg, hs⟩ := mem_same h.classes hc
    exact clOk_same hs (ho.cl g hg)
theorem names_same {m k : Im} (h : ImSame m k) (ho : ∀ c ∈ m.classes, c.names.length = c.methods.length) : ∀ c ∈ k.classes, c.names.length = c.methods.length := by
  intro c hc
  obtain ⟨g, hg, hs⟩ := mem_same h.classes hc
  rw [← hs.names, ← hs.methods]
  exact ho g hg
theorem bOk_im {m : Im} (h : ImOk m) : ∀ f ∈ m.funcs, CodeXa.bOk f := fun f hf x hx => ((h.fn f hf).code x hx).2.2
end Go.Proofs.YthbkklnahhdgcaaDoor.DecP
