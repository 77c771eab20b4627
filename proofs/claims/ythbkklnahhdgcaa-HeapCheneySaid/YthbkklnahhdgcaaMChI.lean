/-
  Package heap's collector: scan over the collector at work.
-/
import Derived.Test.YthbkklnahhdgcaaMChH
import Derived.Test.YthbkklnahhdgcaaMCut
namespace Go.Proofs.Ythbkklnahhdgcaa.ChI
open Go Go.Proofs Go.RowKit Go.Proofs.Ythbkklnahhdgcaa.Lib Go.Proofs.Ythbkklnahhdgcaa.HeapR Go.Proofs.Ythbkklnahhdgcaa.HeapA Go.Proofs.Ythbkklnahhdgcaa.ChA Go.Proofs.Ythbkklnahhdgcaa.ChB Go.Proofs.Ythbkklnahhdgcaa.ChT Go.Proofs.Ythbkklnahhdgcaa.ChCa Go.Proofs.Ythbkklnahhdgcaa.ChCc Go.Proofs.Ythbkklnahhdgcaa.ChCd Go.Proofs.Ythbkklnahhdgcaa.ChD Go.Proofs.Ythbkklnahhdgcaa.ChE Go.Proofs.Ythbkklnahhdgcaa.ChF Go.Proofs.Ythbkklnahhdgcaa.ChG Go.Proofs.Ythbkklnahhdgcaa.ChH

/-- What a collector's steps leave of the world. -/
def Grew (p : Par) (tv0 : Value) (w0 : World) (tv : Value) (w : World) : Prop := Turned (Tset p tv0) w0 w ∧ ∀ j, tv.ownBlock = some j → tv0.ownBlock = some j ∨ w0.heap.size ≤ j
theorem Grew.refl (p : Par) (tv : Value) (w : World) : Grew p tv w tv w := ⟨Turned.refl _ _, fun _ h => Or.inl h⟩
theorem Grew.trans {p : Par} {a b c : Value} {u v w : World} (h : Grew p a u b v) (k : Grew p b v c w) : Grew p a u c w := by
  have hz := h.1.size
  refine ⟨⟨k.1.os.trans h.1.os, k.1.tape.trans h.1.tape, k.1.output.trans h.1.output, Nat.le_trans h.1.size k.1.size, fun j hj hs => (k.1.block j (by omega) (fun h' => ?_)).trans (h.1.block j hj hs)⟩, fun j hj => ?_⟩
  · rcases h' with h' | h' | h' | h'
    · exact hs (Or.inl h')
    · exact hs (Or.inr (Or.inl h'))
    · rcases h.2 j h' with h2 | h2
      · exact hs (Or.inr (Or.inr (Or.inl h2)))
      · omega
    · exact hs (Or.inr (Or.inr (Or.inr h')))
  · rcases k.2 j hj with h2 | h2
    · exact h.2 j h2
    · exact Or.inr (by omega)

theorem with1_eq (P : Nat → Bool) (i : Nat) : with1 P i i = true := by simp [with1]
theorem with1_ne (P : Nat → Bool) {i j : Nat} (h : j ≠ i) : with1 P i j = P j := by
  unfold with1
  have : (j == i) = false := by simpa using h
  rw [this, Bool.or_false]
/-- The cells of an object in 'to'. -/
theorem cell_head (base : List HCell) (l k : List Ob) (x : Ob) : (base ++ flat (l ++ x :: k))[base.length + total l]? = some (x.head 0) := by
  rw [List.getElem?_append_right (by omega), show base.length + total l - base.length = total l by omega, flat_append, List.getElem?_append_right (by rw [flat_length]; omega), flat_length, Nat.sub_self]
  rfl
theorem cell_field (base : List HCell) (l k : List Ob) (x : Ob) (i : Nat) (v : Vl) (hv : x.fs[i]? = some v) : (base ++ flat (l ++ x :: k))[base.length + total l + 1 + i]? = some v.cell := by
  rw [List.getElem?_append_right (by omega), show base.length + total l + 1 + i - base.length = total l + (1 + i) by omega, flat_append, List.getElem?_append_right (by rw [flat_length]; omega), flat_length, show total l + (1 + i) - total l = i + 1 by omega]
  show ((x.cells 0) ++ flat k)[i + 1]? = _
  have hl := (List.getElem?_eq_some_iff.1 hv).1
  rw [List.getElem?_append_left (by rw [Ob.length_cells]; unfold Ob.len; omega)]
  show (x.fs.map Vl.cell)[i]? = _
  rw [List.getElem?_map, hv]
  rfl
theorem cell_before (base : List HCell) (l k k' : List Ob) (j : Nat) (h : j < base.length + total l) : (base ++ flat (l ++ k))[j]? = (base ++ flat (l ++ k'))[j]? := by
  by_cases hj : j < base.length
  · rw [List.getElem?_append_left hj, List.getElem?_append_left hj]
  · rw [List.getElem?_append_right (by omega), List.getElem?_append_right (by omega), flat_append, flat_append, List.getElem?_append_left (by rw [flat_length]; omega), List.getElem?_append_left (by rw [flat_length]; omega)]

/-- The cells copied ahead of a place are fixed. -/
def Done (p : Par) (P : Nat → Bool) (L : List Ob) (at_ : Nat) : Prop := ∀ j c, p.base.length ≤ j → j < at_ → (p.base ++ flat L)[j]? = some c → c.vk = 4 → p.from_ c.vn = true → P j = true
/-- What holds at each round of scan's inner loop. -/
def RelI (p : Par) (tv0 : Value) (w0 : World) (k0 l : List Ob) (x : Ob) (P : Nat → Bool) (i : Nat) (wr : World) : Prop :=
  i ≤ x.fs.length ∧ ∃ tv k P', CR p wr tv (l ++ x :: k) P' ∧ (∀ j, p.base.length + total l + 1 + i ≤ j → P' j = false) ∧ (∀ j, j < p.base.length + total l → P' j = P j) ∧ (∀ j, p.base.length + total l + 1 ≤ j → j < p.base.length + total l + 1 + i → P' j = true) ∧ Grew p tv0 w0 tv wr ∧ ∃ K, k = k0 ++ K

def InvI (p : Par) (tv0 : Value) (w0 : World) (k0 l : List Ob) (x : Ob) (P : Nat → Bool) (u2 u3 u4 u6 u7 u8 u9 u10 u11 u12 u13 u14 u15 u16 u17 u18 u19 u20 u21 u33 u34 u35 u36 : Value) (a : Act) (wr : World) : Prop :=
  ∃ (i : Nat) (s5 s24 s25 s26 s27 s28 s29 s30 s31 s32 : Value), RelI p tv0 w0 k0 l x P i wr ∧ a = ⟨#[(.pointer (some ⟨p.kb, 0, none⟩)), (.int .i64 ((p.base.length + total l : Nat) : Int)), u2, u3, u4, s5, u6, u7, u8, u9, u10, u11, u12, u13, u14, u15, u16, u17, u18, u19, u20, u21, (.int .i64 (x.fs.length : Int)), (.int .i64 (i : Int)), s24, s25, s26, s27, s28, s29, s30, s31, s32, u33, u34, u35, u36], []⟩
def muI (x : Ob) (a : Act) (_ : World) : Nat := x.fs.length - (intOf (a.tmps.getD 23 undef)).toNat

theorem wrap_three (a b c : Nat) (h : a + b + c ≤ big) : wrap64 ((a : Int) + (b : Int) + (c : Int)) = (a : Int) + (b : Int) + (c : Int) := by
  unfold big at h
  unfold wrap64
  omega
theorem wrapk_three (a b c : Nat) (h : a + b + c ≤ big) : IntKind.i64.wrap ((a : Int) + (b : Int) + (c : Int)) = (a : Int) + (b : Int) + (c : Int) := by
  unfold big at h
  exact IntWalk.i64_in _ (by omega)

set_option maxRecDepth 100000 in
set_option maxHeartbeats 1000000 in
theorem scan_inner {p : Par} (hp : p.OK) {Q : Exit → Act → World → Prop} (u2 u3 u4 u5 u6 u7 u8 u9 u10 u11 u12 u13 u14 u15 u16 u17 u18 u19 u20 u21 u24 u25 u26 u27 u28 u29 u30 u31 u32 u33 u34 u35 u36 : Value) (tv0 : Value) (w0 w : World) (l k : List Ob) (x : Ob) (P : Nat → Bool) (tv : Value) (h : CR p w tv (l ++ x :: k) P) (hG : Grew p tv0 w0 tv w) (hF : ∀ j, p.base.length + total l ≤ j → P j = false)
    (hQ : ∀ (s5 s24 s25 s26 s27 s28 s29 s30 s31 s32 : Value) (w' : World), RelI p tv0 w0 k l x P x.fs.length w' → Q (.exit 2) ⟨#[(.pointer (some ⟨p.kb, 0, none⟩)), (.int .i64 ((p.base.length + total l : Nat) : Int)), u2, u3, u4, s5, u6, u7, u8, u9, u10, u11, u12, u13, u14, u15, u16, u17, u18, u19, u20, u21, (.int .i64 (x.fs.length : Int)), (.int .i64 (x.fs.length : Int)), s24, s25, s26, s27, s28, s29, s30, s31, s32, u33, u34, u35, u36], []⟩ w') :
    Code.wp Try.prog (Cut.piece Try.f25 (Cut.loop 3)) Q ⟨#[(.pointer (some ⟨p.kb, 0, none⟩)), (.int .i64 ((p.base.length + total l : Nat) : Int)), u2, u3, u4, u5, u6, u7, u8, u9, u10, u11, u12, u13, u14, u15, u16, u17, u18, u19, u20, u21, (.int .i64 (x.fs.length : Int)), (.int .i64 (0 : Int)), u24, u25, u26, u27, u28, u29, u30, u31, u32, u33, u34, u35, u36], []⟩ w := by
  conv => arg 2; whnf
  refine wp_loop (InvI p tv0 w0 k l x P u2 u3 u4 u6 u7 u8 u9 u10 u11 u12 u13 u14 u15 u16 u17 u18 u19 u20 u21 u33 u34 u35 u36) (muI x) ?_ (fun a' wr hI => ?_)
  · exact ⟨0, u5, u24, u25, u26, u27, u28, u29, u30, u31, u32, ⟨Nat.zero_le _, tv, k, P, h, fun j hj => hF j (by omega), fun _ _ => rfl, fun j h1 h2 => by omega, hG, [], by simp⟩, rfl⟩
  obtain ⟨i, hI⟩ := hI
  obtain ⟨s5, hI⟩ := hI
  obtain ⟨s24, hI⟩ := hI
  obtain ⟨s25, hI⟩ := hI
  obtain ⟨s26, hI⟩ := hI
  obtain ⟨s27, hI⟩ := hI
  obtain ⟨s28, hI⟩ := hI
  obtain ⟨s29, hI⟩ := hI
  obtain ⟨s30, hI⟩ := hI
  obtain ⟨s31, hI⟩ := hI
  obtain ⟨s32, hI⟩ := hI
  obtain ⟨⟨hi, tvr, kr, Pr, hC, hf, hb, hd, hGr, K0, hK0⟩, rfl⟩ := hI
  have hsz := hp.size
  have hfit := fits hC
  have htot : total l + (1 + x.fs.length) ≤ total p.O := by
    rw [total_append, total_cons] at hfit
    unfold Ob.len at hfit
    omega
  by_cases hil : i < x.fs.length
  · have hil' : decide ((i : Int) < (x.fs.length : Int)) = true := by simpa using hil
    obtain ⟨v, hv⟩ : ∃ v, x.fs[i]? = some v := ⟨_, List.getElem?_eq_getElem hil⟩
    have hx : x ∈ l ++ x :: kr := List.mem_append.mpr (Or.inr (List.mem_cons_self ..))
    have hcall := field_any hp hC (p.base.length + total l + 1 + i) v.cell (cell_field p.base l kr x i v hv) (fun h1 h2 => by
      obtain ⟨y, hy, e⟩ := hp.closed x (hC.inO x hx) v (List.mem_of_getElem? hv) h1 h2
      exact ⟨y, Leads.step (hC.come x hx) (List.mem_of_getElem? hv) h1 e hy, e⟩) (fun h' => by rw [hf _ (Nat.le_refl _)] at h'; cases h')
    have b1 : p.base.length + total l + 1 ≤ big := by omega
    have b2 : p.base.length + total l + 1 + i ≤ big := by omega
    have b3 : i + 1 ≤ big := by omega
    generalize hat : p.base.length + total l = at_ at *
    have hidx : ((at_ + 1 + i : Nat) : Int) = (at_ : Int) + 1 + (i : Int) := by omega
    rw [hidx] at hcall
    clear hidx hsz htot hfit
    have c1 : IntKind.i64.wrap ((at_ : Int) + 1) = (at_ : Int) + 1 := wrapk_two at_ 1 b1
    have c2 : IntKind.i64.wrap ((at_ : Int) + 1 + (i : Int)) = (at_ : Int) + 1 + (i : Int) := wrapk_three at_ 1 i b2
    have c3 : IntKind.i64.wrap ((i : Int) + 1) = (i : Int) + 1 := wrapk_two i 1 b3
    have c4 : wrap64 ((at_ : Int) + 1) = (at_ : Int) + 1 := wrap_two at_ 1 b1
    have c5 : wrap64 ((at_ : Int) + 1 + (i : Int)) = (at_ : Int) + 1 + (i : Int) := wrap_three at_ 1 i b2
    have c6 : wrap64 ((i : Int) + 1) = (i : Int) + 1 := wrap_two i 1 b3
    go_wp2_with fail
    refine hcall.mono ?_
    rintro e w2 ⟨rfl, tv2, K, hC2, hT2, ho2⟩
    clear hcall
    go_wp2_with fail
    clear c1 c2 c3 c4 c5 c6
    subst hat
    refine ⟨⟨i + 1, _, _, _, _, _, _, _, _, _, _, ⟨by omega, tv2, kr ++ K, _, by rw [show l ++ x :: (kr ++ K) = (l ++ x :: kr) ++ K by simp]; exact hC2, fun j hj => ?_, fun j hj => ?_, fun j h1 h2 => ?_, hGr.trans ⟨hT2, ho2⟩, K0 ++ K, by rw [hK0, List.append_assoc]⟩, rfl⟩, ?_⟩
    · rw [with1_ne _ (by omega)]
      exact hf j (by omega)
    · rw [with1_ne _ (by omega)]
      exact hb j hj
    · by_cases hj : j = p.base.length + total l + 1 + i
      · subst hj
        exact with1_eq _ _
      · rw [with1_ne _ hj]
        exact hd j h1 (by omega)
    · simp [muI, intOf]
      omega
  · have hie : i = x.fs.length := by omega
    subst hie
    have hil' : decide ((x.fs.length : Int) < (x.fs.length : Int)) = false := by simp
    go_wp2
    exact ⟨Nat.le_refl _, tvr, kr, Pr, hC, hf, hb, hd, hGr, K0, hK0⟩

theorem wrapk_in {a b : Nat} (h : a + (1 + b) ≤ big) : IntKind.i64.wrap ((a : Int) + (1 + (b : Int))) = (a : Int) + (1 + (b : Int)) := by
  unfold big at h
  exact IntWalk.i64_in _ (by omega)
theorem wrap_in {a b : Nat} (h : a + (1 + b) ≤ big) : wrap64 ((a : Int) + (1 + (b : Int))) = (a : Int) + (1 + (b : Int)) := by
  unfold big at h
  unfold wrap64
  omega
/-- What holds at each round of scan's loop. -/
def RelO (p : Par) (tv0 : Value) (w0 : World) (L0 : List Ob) (P0 : Nat → Bool) (l : List Ob) (wr : World) : Prop :=
  ∃ tv k P', CR p wr tv (l ++ k) P' ∧ (∃ K, l ++ k = L0 ++ K) ∧ (∀ j, p.base.length + total l ≤ j → P' j = false) ∧ Done p P' (l ++ k) (p.base.length + total l) ∧ (∀ j, j < p.base.length → P' j = P0 j) ∧ Grew p tv0 w0 tv wr
def InvO (p : Par) (tv0 : Value) (w0 : World) (L0 : List Ob) (P0 : Nat → Bool) (u2 u3 : Value) (a : Act) (wr : World) : Prop :=
  ∃ (l : List Ob) (s4 s5 s6 s7 s8 s9 s10 s11 s12 s13 s14 s15 s16 s17 s18 s19 s20 s21 s22 s23 s24 s25 s26 s27 s28 s29 s30 s31 s32 s33 s34 s35 s36 : Value), RelO p tv0 w0 L0 P0 l wr ∧ a = ⟨#[(.pointer (some ⟨p.kb, 0, none⟩)), (.int .i64 ((p.base.length + total l : Nat) : Int)), u2, u3, s4, s5, s6, s7, s8, s9, s10, s11, s12, s13, s14, s15, s16, s17, s18, s19, s20, s21, s22, s23, s24, s25, s26, s27, s28, s29, s30, s31, s32, s33, s34, s35, s36], []⟩
def muO (a : Act) (_ : World) : Nat := big - (intOf (a.tmps.getD 1 undef)).toNat
/-- What scan leaves. -/
def Scanned (p : Par) (tv0 : Value) (w0 : World) (L0 : List Ob) (P0 : Nat → Bool) (w' : World) : Prop :=
  ∃ tv K P', CR p w' tv (L0 ++ K) P' ∧ Done p P' (L0 ++ K) (p.base.length + total (L0 ++ K)) ∧ (∀ j, j < p.base.length → P' j = P0 j) ∧ Grew p tv0 w0 tv w'

set_option maxRecDepth 100000 in
set_option maxHeartbeats 1000000 in
theorem scan_any {p : Par} (hp : p.OK) {w : World} {tv : Value} {L : List Ob} {P : Nat → Bool} (h : CR p w tv L P) (hF : ∀ j, p.base.length ≤ j → P j = false) :
    Calls Try.prog 25 #[.pointer (some ⟨p.kb, 0, none⟩), .int .i64 (p.base.length : Int)] w fun e w' => e = .returned (.tuple #[]) ∧ Scanned p tv w L P w' := by
  go_enter Try.func25, Try.ntmps25
  go_wp2
  refine wp_loop (InvO p tv w L P undef undef) muO ?_ (fun a' wr hI => ?_)
  · exact ⟨[], _, _, _, _, _, _, _, _, _, _, _, _, _, _, _, _, _, _, _, _, _, _, _, _, _, _, _, _, _, _, _, _, _, ⟨tv, L, P, h, ⟨[], by simp⟩, fun j hj => hF j (by simpa [total] using hj), fun j c h1 h2 => by simp [total] at h2; omega, fun _ _ => rfl, Grew.refl _ _ _⟩, rfl⟩
  obtain ⟨l, hI⟩ := hI
  obtain ⟨s4, hI⟩ := hI
  obtain ⟨s5, hI⟩ := hI
  obtain ⟨s6, hI⟩ := hI
  obtain ⟨s7, hI⟩ := hI
  obtain ⟨s8, hI⟩ := hI
  obtain ⟨s9, hI⟩ := hI
  obtain ⟨s10, hI⟩ := hI
  obtain ⟨s11, hI⟩ := hI
  obtain ⟨s12, hI⟩ := hI
  obtain ⟨s13, hI⟩ := hI
  obtain ⟨s14, hI⟩ := hI
  obtain ⟨s15, hI⟩ := hI
  obtain ⟨s16, hI⟩ := hI
  obtain ⟨s17, hI⟩ := hI
  obtain ⟨s18, hI⟩ := hI
  obtain ⟨s19, hI⟩ := hI
  obtain ⟨s20, hI⟩ := hI
  obtain ⟨s21, hI⟩ := hI
  obtain ⟨s22, hI⟩ := hI
  obtain ⟨s23, hI⟩ := hI
  obtain ⟨s24, hI⟩ := hI
  obtain ⟨s25, hI⟩ := hI
  obtain ⟨s26, hI⟩ := hI
  obtain ⟨s27, hI⟩ := hI
  obtain ⟨s28, hI⟩ := hI
  obtain ⟨s29, hI⟩ := hI
  obtain ⟨s30, hI⟩ := hI
  obtain ⟨s31, hI⟩ := hI
  obtain ⟨s32, hI⟩ := hI
  obtain ⟨s33, hI⟩ := hI
  obtain ⟨s34, hI⟩ := hI
  obtain ⟨s35, hI⟩ := hI
  obtain ⟨s36, hI⟩ := hI
  obtain ⟨⟨tvr, k, Pr, hC, ⟨K0, hK⟩, hf, hd, hb, hG⟩, rfl⟩ := hI
  have hsz := hp.size
  have hfit := fits hC
  obtain ⟨og, cg, rfl⟩ := own_slice hC.row
  have k1 : wr.cell? ⟨p.kb, 1, none⟩ = some (.slice og (p.base.length + total (l ++ k)) cg) := cell_of_block hC.kblk rfl
  cases k with
  | nil =>
    have hlt' : decide (((p.base.length + total l : Nat) : Int) < ((p.base.length + total (l ++ []) : Nat) : Int)) = false := by rw [List.append_nil]; simp
    rw [List.append_nil] at k1 hlt'
    clear hsz hfit
    generalize hat : p.base.length + total l = at_ at *
    go_wp2
    subst hat
    go_end0
    refine ⟨rfl, _, K0, Pr, by rw [← hK]; exact hC, ?_, hb, hG⟩
    rw [← hK, List.append_nil]
    rw [List.append_nil] at hd
    exact hd
  | cons x k =>
    have htx : total (l ++ x :: k) = total l + (1 + x.fs.length) + total k := by
      rw [total_append, total_cons]
      unfold Ob.len
      omega
    have hlt : ((p.base.length + total l : Nat) : Int) < ((p.base.length + total (l ++ x :: k) : Nat) : Int) := by omega
    obtain ⟨g, cg', hgs⟩ := row_slice hC.row (by omega)
    rw [hgs] at k1
    have hrow := hC.row
    rw [hgs] at hrow
    have ht : (tcells p.from_ p.base (l ++ x :: k) p.z Pr)[p.base.length + total l]? = some (x.head 0) := by
      rw [tcells_get, cell_head, Option.map_some, if_neg (by rw [hf _ (Nat.le_refl _)]; exact Bool.false_ne_true)]
    have g3 : wr.cell? ⟨g, (p.base.length + total l) * 8 + 3, none⟩ = some (.int .i64 (x.fs.length : Int)) := by
      rw [hrow.cellAt _ (by omega)]
      exact hvals_get _ _ 3 _ ht (by omega)
    have b1 : 1 + x.fs.length ≤ big := by omega
    have b2 : p.base.length + total l + (1 + x.fs.length) ≤ big := by omega
    have hstep : p.base.length + total l + (1 + x.fs.length) = p.base.length + total (l ++ [x]) := by
      rw [total_append]
      simp [total, Ob.len]
      omega
    clear hrow ht htx hsz hfit
    generalize hat : p.base.length + total l = at_ at *
    generalize hnn : p.base.length + total (l ++ x :: k) = nn at *
    have hl0 : (0 : Int) ≤ (at_ : Int) := by omega
    have hltd : decide ((at_ : Int) < (nn : Int)) = true := by simpa using hlt
    go_wp2
    subst hat
    refine scan_inner hp _ _ _ _ _ _ _ _ _ _ _ _ _ _ _ _ _ _ _ _ _ _ _ _ _ _ _ _ _ _ _ _ _ tv w wr l k x Pr _ hC hG hf ?_
    intro t5 t24 t25 t26 t27 t28 t29 t30 t31 t32 w2 hR
    obtain ⟨_, tv2, k2, P2, hC2, hf2, hb2, hd2, hG2, K2, hK2⟩ := hR
    have hfin : RelO p tv w L P (l ++ [x]) w2 := by
      refine ⟨tv2, k2, P2, by rw [List.append_assoc]; exact hC2, ?_, ?_, ?_, fun j hj => (hb2 j (by omega)).trans (hb j hj), hG2⟩
      · exact ⟨K0 ++ K2, by rw [hK2, show l ++ [x] ++ (k ++ K2) = (l ++ x :: k) ++ K2 by simp, hK, List.append_assoc]⟩
      · intro j hj
        exact hf2 j (by omega)
      · intro j c h1 h2 h3 h4 h5
        rw [← hstep] at h2
        by_cases hj1 : j < p.base.length + total l
        · rw [hb2 j hj1]
          refine hd j c h1 hj1 ?_ h4 h5
          rw [← h3, List.append_assoc]
          exact cell_before p.base l (x :: k) ([x] ++ k2) j hj1
        · by_cases hj2 : j = p.base.length + total l
          · subst hj2
            rw [List.append_assoc] at h3
            have h6 := cell_head p.base l k2 x
            rw [show l ++ x :: k2 = l ++ ([x] ++ k2) by rfl] at h6
            rw [h6] at h3
            cases h3
            exact absurd h4 (show ¬ (0 : Int) = 4 by decide)
          · exact hd2 j (by omega) (by omega)
    clear hC hG hf hb hd hf2 hb2 hd2 hG2 hC2 g3 k1 hltd hl0 hlt
    have c1 : IntKind.i64.wrap (1 + (x.fs.length : Int)) = 1 + (x.fs.length : Int) := wrapk_two 1 x.fs.length b1
    have c2 : IntKind.i64.wrap ((((p.base.length + total l : Nat) : Int)) + (1 + (x.fs.length : Int))) = ((p.base.length + total l : Nat) : Int) + (1 + (x.fs.length : Int)) := wrapk_in b2
    have c3 : wrap64 (1 + (x.fs.length : Int)) = 1 + (x.fs.length : Int) := wrap_two 1 x.fs.length b1
    have c4 : wrap64 ((((p.base.length + total l : Nat) : Int)) + (1 + (x.fs.length : Int))) = ((p.base.length + total l : Nat) : Int) + (1 + (x.fs.length : Int)) := wrap_in b2
    generalize hat : p.base.length + total l = at_ at *
    go_wp2
    have heq : (at_ : Int) + (1 + (x.fs.length : Int)) = ((p.base.length + total (l ++ [x]) : Nat) : Int) := by
      rw [← hstep]
      omega
    rw [heq]
    refine ⟨⟨l ++ [x], _, _, _, _, _, _, _, _, _, _, _, _, _, _, _, _, _, _, _, _, _, _, _, _, _, _, _, _, _, _, _, _, _, hfin, rfl⟩, ?_⟩
    clear c1 c2 c3 c4
    generalize p.base.length + total (l ++ [x]) = q at hstep ⊢
    simp [muO, intOf]
    omega

end Go.Proofs.Ythbkklnahhdgcaa.ChI
