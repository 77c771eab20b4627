/-
  rewindkeep's pick and sameInts.
-/
import Derived.Test.YthbkklnahhdgcaaMChTd
import Derived.Deep.QuietTactic
import Derived.BigQuiet
namespace Go.Proofs.Ythbkklnahhdgcaa.ChTe
open Go Go.Proofs Go.RowKit Go.Maps Go.Proofs.Ythbkklnahhdgcaa.Lib Go.Proofs.Ythbkklnahhdgcaa.HeapR Go.Proofs.Ythbkklnahhdgcaa.ChCa Go.Proofs.Ythbkklnahhdgcaa.ChCc Go.Proofs.Ythbkklnahhdgcaa.ChE Go.Proofs.Ythbkklnahhdgcaa.ChH Go.Proofs.Ythbkklnahhdgcaa.ChL Go.Proofs.Ythbkklnahhdgcaa.ChV Go.Proofs.Ythbkklnahhdgcaa.ChTb Go.Proofs.Ythbkklnahhdgcaa.ChTc Go.Proofs.Ythbkklnahhdgcaa.ChTd

theorem below_drewN {B : Nat} {a b : World} (h : Below B a b) (n : Nat) : Below B a (b.drewN n) := ⟨h.os, h.tape, h.output, h.size, h.block⟩
theorem pick_val (a : Int) (n : Nat) (h0 : 0 < n) (h1 : n ≤ big) : ∃ j : Nat, j < n ∧ wrap64 ((IntKind.u64.wrap a).tmod (n : Int)) = (j : Int) := by
  have hq : 0 ≤ IntKind.u64.wrap a := by
    simp [IntKind.wrap, IntKind.bits, IntKind.signed]
    omega
  rw [Int.tmod_eq_emod_of_nonneg hq]
  have e0 : 0 ≤ (IntKind.u64.wrap a) % (n : Int) := Int.emod_nonneg _ (by omega)
  have e1 : (IntKind.u64.wrap a) % (n : Int) < (n : Int) := Int.emod_lt_of_pos _ (by omega)
  refine ⟨((IntKind.u64.wrap a) % (n : Int)).toNat, by omega, ?_⟩
  rw [Int.toNat_of_nonneg e0]
  unfold big at h1
  unfold wrap64
  omega

set_option maxRecDepth 100000 in
set_option maxHeartbeats 1000000 in
theorem pick_any (a : Int) (n : Nat) (w : World) (h0 : 0 < n) (h1 : n ≤ big) :
    Calls Try.prog 7 #[.int .i64 a, .int .i64 (n : Int)] w fun e w' => (∃ j : Nat, j < n ∧ e = .returned (.int .i64 (j : Int))) ∧ Below w.heap.size w w' := by
  have c1 : IntKind.u64.wrap (n : Int) = (n : Int) := IntWalk.u64_in _ (by unfold big at h1; omega)
  go_enter Try.func7, Try.ntmps7
  go_wp2
  go_ret
  obtain ⟨j, hj, e⟩ := pick_val a n h0 h1
  rw [e]
  exact ⟨⟨j, hj, rfl⟩, Below.refl _ _⟩

def InvE (g1 g2 c1 c2 : Nat) (w0 : World) (xs : List Int) (u2 u3 u4 u6 u7 u8 u9 u10 : Value) (a : Act) (wr : World) : Prop :=
  ∃ (i : Nat) (s11 s12 s13 s14 s15 s16 s17 s18 s19 s20 s21 s22 s23 s24 s25 : Value), i ≤ xs.length ∧ Below w0.heap.size w0 wr ∧ a = ⟨#[(.slice (some ⟨g1, 0, none⟩) xs.length c1), (.slice (some ⟨g2, 0, none⟩) xs.length c2), u2, u3, u4, (.int .i64 (i : Int)), u6, u7, u8, u9, u10, s11, s12, s13, s14, s15, s16, s17, s18, s19, s20, s21, s22, s23, s24, s25], []⟩
def muE (n : Nat) (a : Act) (_ : World) : Nat := n - (intOf (a.tmps.getD 5 undef)).toNat

set_option maxRecDepth 100000 in
set_option maxHeartbeats 2000000 in
theorem same_loop {Q : Exit → Act → World → Prop} (u2 u3 u4 u6 u7 u8 u9 u10 u11 u12 u13 u14 u15 u16 u17 u18 u19 u20 u21 u22 u23 u24 u25 : Value) (g1 g2 c1 c2 : Nat) (xs : List Int) (w0 w : World) (hxl : xs.length ≤ big) (h1 : ∀ (i : Nat) (v : Int), xs[i]? = some v → w0.cell? ⟨g1, i, none⟩ = some (.int .i64 v)) (h2 : ∀ (i : Nat) (v : Int), xs[i]? = some v → w0.cell? ⟨g2, i, none⟩ = some (.int .i64 v))
    (hw : Below w0.heap.size w0 w) (hQ : ∀ (s11 s12 s13 s14 s15 s16 s17 s18 s19 s20 s21 s22 s23 s24 s25 : Value) (w' : World), Below w0.heap.size w0 w' → Q (.exit 0) ⟨#[(.slice (some ⟨g1, 0, none⟩) xs.length c1), (.slice (some ⟨g2, 0, none⟩) xs.length c2), u2, u3, u4, (.int .i64 (xs.length : Int)), u6, u7, u8, u9, u10, s11, s12, s13, s14, s15, s16, s17, s18, s19, s20, s21, s22, s23, s24, s25], []⟩ w') :
    Code.wp Try.prog (Cut.piece Try.f13 (Cut.loop 4)) Q ⟨#[(.slice (some ⟨g1, 0, none⟩) xs.length c1), (.slice (some ⟨g2, 0, none⟩) xs.length c2), u2, u3, u4, (.int .i64 (0 : Int)), u6, u7, u8, u9, u10, u11, u12, u13, u14, u15, u16, u17, u18, u19, u20, u21, u22, u23, u24, u25], []⟩ w := by
  have hbig := big_lt
  conv => arg 2; whnf
  refine wp_loop (InvE g1 g2 c1 c2 w0 xs u2 u3 u4 u6 u7 u8 u9 u10) (muE xs.length) ?_ (fun a' wr hI => ?_)
  · exact ⟨0, u11, u12, u13, u14, u15, u16, u17, u18, u19, u20, u21, u22, u23, u24, u25, Nat.zero_le _, hw, rfl⟩
  obtain ⟨i, hI⟩ := hI
  obtain ⟨s11, hI⟩ := hI
  obtain ⟨s12, hI⟩ := hI
  obtain ⟨s13, hI⟩ := hI
  obtain ⟨s14, hI⟩ := hI
  obtain ⟨s15, hI⟩ := hI
  obtain ⟨s16, hI⟩ := hI
  obtain ⟨s17, hI⟩ := hI
  obtain ⟨s18, hI⟩ := hI
  obtain ⟨s19, hI⟩ := hI
  obtain ⟨s20, hI⟩ := hI
  obtain ⟨s21, hI⟩ := hI
  obtain ⟨s22, hI⟩ := hI
  obtain ⟨s23, hI⟩ := hI
  obtain ⟨s24, hI⟩ := hI
  obtain ⟨s25, hI⟩ := hI
  obtain ⟨hi, hB, rfl⟩ := hI
  by_cases hil : i < xs.length
  · have hil' : decide ((i : Int) < (xs.length : Int)) = true := by simpa using hil
    have hil2 : (i : Int) < (xs.length : Int) := by omega
    have hi0 : (0 : Int) ≤ (i : Int) := by omega
    obtain ⟨v, hv⟩ : ∃ v, xs[i]? = some v := ⟨_, List.getElem?_eq_getElem hil⟩
    have q1 : wr.cell? ⟨g1, i, none⟩ = some (.int .i64 v) := (hB.cell (p := ⟨g1, i, none⟩) (World.block_lt_of_cell? w0 _ (h1 i v hv))).trans (h1 i v hv)
    have q2 : wr.cell? ⟨g2, i, none⟩ = some (.int .i64 v) := (hB.cell (p := ⟨g2, i, none⟩) (World.block_lt_of_cell? w0 _ (h2 i v hv))).trans (h2 i v hv)
    have hvv : (v == v) = true := by simp
    have b3 : i + 1 ≤ big := by omega
    have c3 : IntKind.i64.wrap ((i : Int) + 1) = (i : Int) + 1 := wrapk_two i 1 b3
    have c6 : wrap64 ((i : Int) + 1) = (i : Int) + 1 := wrap_two i 1 b3
    clear h1 h2 hxl hbig
    have A1 := Lib.hid hB
    clear hB
    go_wp2
    go_quiet (fail)
    go_wp2
    clear c3 c6
    refine ⟨⟨i + 1, _, _, _, _, _, _, _, _, _, _, _, _, _, _, _, by omega, below_drewN A1.out _, rfl⟩, ?_⟩
    simp [muE, intOf]
    omega
  · have hie : i = xs.length := by omega
    subst hie
    have hil' : decide ((xs.length : Int) < (xs.length : Int)) = false := by simp
    clear h1 h2
    have A1 := Lib.hid hB
    clear hB
    go_wp2
    exact A1.out

set_option maxRecDepth 100000 in
set_option maxHeartbeats 1000000 in
theorem same_ints (g1 g2 c1 c2 : Nat) (xs : List Int) (w : World) (hxl : xs.length ≤ big) (h1 : ∀ (i : Nat) (v : Int), xs[i]? = some v → w.cell? ⟨g1, i, none⟩ = some (.int .i64 v)) (h2 : ∀ (i : Nat) (v : Int), xs[i]? = some v → w.cell? ⟨g2, i, none⟩ = some (.int .i64 v)) :
    Calls Try.prog 13 #[.slice (some ⟨g1, 0, none⟩) xs.length c1, .slice (some ⟨g2, 0, none⟩) xs.length c2] w fun e w' => e = .returned (.bool true) ∧ Below w.heap.size w w' := by
  have hnn : ((xs.length : Int) == (xs.length : Int)) = true := by simp
  have A1 := Lib.hid h1
  have A2 := Lib.hid h2
  clear h1 h2
  go_enter Try.func13, Try.ntmps13
  go_wp2_with fail
  refine same_loop _ _ _ _ _ _ _ _ _ _ _ _ _ _ _ _ _ _ _ _ _ _ _ g1 g2 c1 c2 xs w w hxl A1.out A2.out (Below.refl _ _) ?_
  intro s11 s12 s13 s14 s15 s16 s17 s18 s19 s20 s21 s22 s23 s24 s25 w' hB
  have A3 := Lib.hid hB
  clear hB
  go_wp2
  go_ret
  exact ⟨rfl, A3.out⟩

end Go.Proofs.Ythbkklnahhdgcaa.ChTe
