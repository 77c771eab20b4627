/-
  maps.Copy at maps of integers; how many entries a map of identities has.
-/
import Derived.Test.YthbkklnahhdgcaaMChL
namespace Go.Proofs.Ythbkklnahhdgcaa.ChM
open Go Go.Proofs Go.RowKit Go.Maps Go.Proofs.Ythbkklnahhdgcaa.Lib Go.Proofs.Ythbkklnahhdgcaa.HeapR Go.Proofs.Ythbkklnahhdgcaa.ChCa Go.Proofs.Ythbkklnahhdgcaa.ChI Go.Proofs.Ythbkklnahhdgcaa.ChK Go.Proofs.Ythbkklnahhdgcaa.ChL

/-- What holds at each round. -/
def RelC (mb wb n m r : Nat) (g gs : Int → Option Int) (Ds : DataW Unit) (w wr : World) : Prop :=
  ∃ D left cnt gr, wr.ranges Try.prog 3 (plainElem Try.prog 3) wb r m Ds left cnt ∧ wr.ownsMap Try.prog 3 (plainElem Try.prog 3) mb (n + (Maps.size Ds - cnt)) D ∧ cnt ≤ Maps.size Ds ∧ Reads D gr ∧ (∀ id, left (.int .i64 id) = true → gr id = g id) ∧ (∀ id, left (.int .i64 id) = false → gr id = (gs id).or (g id)) ∧ Turned (fun k => k = mb ∨ k = r) w wr

def InvC (mb wb n m r : Nat) (g gs : Int → Option Int) (Ds : DataW Unit) (w : World) (u1 u2 u3 u6 : Value) (a : Act) (wr : World) : Prop :=
  ∃ (s4 s5 s8 s9 s10 s11 s12 s13 s14 s15 : Value), RelC mb wb n m r g gs Ds w wr ∧ a = ⟨#[(.map (some mb)), u1, u2, u3, s4, s5, u6, (.pointer (some ⟨r, 0, none⟩)), s8, s9, s10, s11, s12, s13, s14, s15], []⟩

set_option maxRecDepth 100000 in
set_option maxHeartbeats 1000000 in
theorem copy_any (mb wb n m : Nat) (g gs : Int → Option Int) (D Ds : DataW Unit) (w : World) (hd : w.ownsMap Try.prog 3 (plainElem Try.prog 3) mb n D) (hs : w.ownsMap Try.prog 3 (plainElem Try.prog 3) wb m Ds) (hR : Reads D g) (hRs : Reads Ds gs) (hne : mb ≠ wb) (hb : n + Maps.size Ds < maxLen) :
    Calls Try.prog 26 #[.map (some mb), .map (some wb)] w fun e w' => e = .returned (.tuple #[]) ∧ ∃ D', w'.ownsMap Try.prog 3 (plainElem Try.prog 3) mb (n + Maps.size Ds) D' ∧ Reads D' (fun id => (gs id).or (g id)) ∧ Turned (fun k => k = mb) w w' := by
  have hml := hd.lt
  have hhas := hRs.has_
  go_enter Try.func26, Try.ntmps26
  go_wp2_with (at_range; refine wpList_range_own _ rfl _ 47 rfl 3 3 (int_keyed Try.underlying3) Try.underlying47 _ wb m Ds rfl hs ?_; intro w0 hrg0 hg0 hs0)
  go_frame
  generalize hr : w.heap.size = r at *
  refine wp_loop (InvC mb wb n m r g gs Ds w (.map (some wb)) undef undef (.map (some wb))) (fun _ wr => wr.rangeLeft wb r) ?_ (fun a' wr hI => ?_)
  · refine ⟨_, _, _, _, _, _, _, _, _, _, ⟨D, _, _, g, hrg0, by rw [Nat.sub_self]; exact HeapF.ownsMap_same hd (hg0.block mb (by rw [hr]; exact hml) (by simp)), Nat.le_refl _, hR, fun _ _ => rfl, fun id h => ?_, (Turned.refl _ w).grown hg0 (fun k hk => by cases hk)⟩, rfl⟩
    rw [hhas] at h
    cases hgs : gs id with
    | none => rfl
    | some c =>
      rw [hgs] at h
      cases h
  obtain ⟨s4, hI⟩ := hI
  obtain ⟨s5, hI⟩ := hI
  obtain ⟨s8, hI⟩ := hI
  obtain ⟨s9, hI⟩ := hI
  obtain ⟨s10, hI⟩ := hI
  obtain ⟨s11, hI⟩ := hI
  obtain ⟨s12, hI⟩ := hI
  obtain ⟨s13, hI⟩ := hI
  obtain ⟨s14, hI⟩ := hI
  obtain ⟨s15, hI⟩ := hI
  obtain ⟨⟨Dr, left, cnt, gr, hrg, hown, hcs, hRr, hl, hnl, hT⟩, rfl⟩ := hI
  have hmu := hrg.left_eq
  clear hrg0 hg0 hs0 hd hs hR
  go_wp2_with (at_next; refine wpList_next_ranges_ii _ rfl _ rfl 3 3 .i64 .i64 (int_keyed Try.underlying3) Try.underlying3 Try.underlying3 wb r m _ _ _ rfl hrg ?_ ?_)
  · intro hc0 hl0
    have hfin : ∃ D', wr.ownsMap Try.prog 3 (plainElem Try.prog 3) mb (n + Maps.size Ds) D' ∧ Reads D' (fun id => (gs id).or (g id)) ∧ Turned (fun k => k = mb) w wr := ⟨Dr, by rw [hc0, Nat.sub_zero] at hown; exact hown, hRr.congr (fun i => (hnl i (hl0 _)).symm), hT.os, hT.tape, hT.output, hT.size, fun k hk hs => hT.block k hk (fun h => h.elim hs (fun h => by omega))⟩
    clear hmu hl hnl hl0 hcs hc0 hhas hb
    go_wp2
    go_end0
    exact ⟨rfl, hfin⟩
  · intro x c w1 cnt1 hwx hwc hlx hat hrg1 hlt hg1 hs1 hen
    have hgx : gs x = some c := reads_at hRs hat
    have hT1 : Turned (fun k => k = mb ∨ k = r) w w1 := hT.grown hg1 (fun k hk => Or.inl (Or.inr (Option.some.inj hk).symm))
    have hne' : ∀ id, id ≠ x → (left (.int .i64 id) && !(Lit.int .i64 id).sameKey (.int .i64 x)) = left (.int .i64 id) := fun id h => by
      rw [sameKey_int, decide_eq_false h]
      simp
    have hxx : (left (.int .i64 x) && !(Lit.int .i64 x).sameKey (.int .i64 x)) = false := by
      rw [sameKey_int]
      simp
    have hmr : mb ≠ r := by omega
    have hown1 := HeapF.ownsMap_same hown (hg1.block mb hown.lt (fun h => hmr (Option.some.inj h)))
    have hlm : n + (Maps.size Ds - cnt) < maxLen := by omega
    have A1 := Lib.hid hnl
    have A2 := Lib.hid hl
    have A4 := Lib.hid hne'
    have A5 := Lib.hid hxx
    have A6 := Lib.hid hgx
    have A7 := Lib.hid hmu
    have A8 := Lib.hid hhas
    have A9 := Lib.hid hr
    have A10 := Lib.hid hat
    clear hnl hl hne' hxx hgx hmu hhas hr hat hb
    go_wp2_with (at_mapUpdate; refine wpList_mapUpdate_own _ rfl _ _ _ 47 rfl 3 3 (int_keyed Try.underlying3) Try.underlying47 _ mb _ Dr rfl hown1 hlm _ _ (.int .i64 x) rfl rfl (keyOf_int_mk Try.underlying3 hwx) _ [] (plainElem_int Try.underlying3 hwc) ?_; intro w2 hm2 hg2)
    have hrg2 := hrg1.kept hg2 (by intro h; exact hne (Option.some.inj h).symm) (by intro h; exact hmr (Option.some.inj h).symm)
    have hT2 : Turned (fun k => k = mb ∨ k = r) w w2 := hT1.grown hg2 (fun k hk => Or.inl (Or.inl (Option.some.inj hk).symm))
    have hfin : RelC mb wb n m r g gs Ds w w2 := ⟨_, _, cnt1, _, hrg2, hm2.mono (by omega), by omega, reads_put hRr x c, fun id h => by
      have he : id ≠ x := by
        rintro rfl
        rw [A5.out] at h
        cases h
      rw [if_neg he]
      rw [A4.out id he] at h
      exact A2.out id h, fun id h => by
      by_cases he : id = x
      · rw [if_pos he, he, A6.out]
        rfl
      · rw [if_neg he]
        rw [A4.out id he] at h
        exact A1.out id h, hT2⟩
    clear hrg hrg1 hown1 hown
    go_wp2
    refine ⟨⟨_, _, _, _, _, _, _, _, _, _, hfin, rfl⟩, ?_⟩
    rw [hrg2.left_eq, A7.out]
    exact hlt

/-- A list of numbers below n that are apart has at most n. -/
theorem len_of_apart : ∀ (n : Nat) (l : List Nat), l.Nodup → (∀ x ∈ l, x < n) → l.length ≤ n := by
  intro n
  induction n with
  | zero =>
    intro l _ h
    cases l with
    | nil => exact Nat.le_refl _
    | cons x l => exact absurd (h x (List.mem_cons_self ..)) (by omega)
  | succ n ih =>
    intro l hl h
    have h1 := ih (l.erase n) (hl.erase n) (fun x hx => by
      have h2 := (List.Nodup.mem_erase_iff hl).1 hx
      have := h x h2.2
      have := h2.1
      omega)
    by_cases hm : n ∈ l
    · rw [List.length_erase_of_mem hm] at h1
      omega
    · rw [List.erase_of_not_mem hm] at h1
      omega

open Go.WideElems (Fit rd rg rg_of rd_key) in
/-- How many entries the map of identities has at most. -/
theorem shrink {w : World} {b n : Nat} {D : DataW Unit} {g : Int → Option Int} {N : Nat} (h : w.ownsMap Try.prog 3 (plainElem Try.prog 3) b n D) (hR : Reads D g) (hg : ∀ id, (g id).isSome = true → 1 ≤ id ∧ id ≤ (N : Int)) : w.ownsMap Try.prog 3 (plainElem Try.prog 3) b N D := by
  have hen := h.entries (int_keyed Try.underlying3)
  obtain ⟨es, clock, hb, F, hs, hD⟩ := h
  refine ⟨es, clock, hb, F, ?_, hD⟩
  have hint : ∀ p ∈ es.toList.map (rg Try.prog 3 (plainElem (H := Unit) Try.prog 3)), ∃ x, p.1 = Lit.int .i64 x := by
    intro p hp
    obtain ⟨e, he, rfl⟩ := List.mem_map.1 hp
    obtain ⟨y, hy⟩ := F.reads e he
    obtain ⟨x, _, h3, _⟩ := keyOf_int_inv Try.underlying3 (rd_key hy)
    exact ⟨x, by rw [rg_of hy, h3]⟩
  obtain ⟨l, hl, hap, hk⟩ := hen
  rw [hl] at hD
  injection hD with hD
  have hint' : ∀ p ∈ l, ∃ x, p.1 = Lit.int .i64 x := fun p hp => hint p (mem_sorted.1 (hD ▸ hp))
  have hlen : l.length = es.size := by
    rw [hD, length_sorted]
    simp
  have hin : ∀ p ∈ l, ∀ x, p.1 = Lit.int .i64 x → 1 ≤ x ∧ x ≤ (N : Int) := fun p hp x hx => by
    refine hg x ?_
    rw [← hR.has_ x, hl, has_eq, List.any_eq_true]
    exact ⟨p, hp, by rw [hx]; exact WideAt.sameKey_self (lit_key x)⟩
  let f : Lit × DataW Unit → Nat := fun p => match p.1 with | .int _ x => (x - 1).toNat | _ => 0
  have hnd : (l.map f).Nodup := by
    rw [List.Nodup, List.pairwise_map]
    refine List.Pairwise.imp_of_mem ?_ hap
    intro a b ha hb' hab e
    obtain ⟨x, hx⟩ := hint' a ha
    obtain ⟨y, hy⟩ := hint' b hb'
    have h1 := hin a ha x hx
    have h2 := hin b hb' y hy
    refine hab ?_
    simp only [f, hx, hy] at e
    rw [hx, hy]
    congr 1
    omega
  have := len_of_apart N (l.map f) hnd (fun z hz => by
    obtain ⟨p, hp, rfl⟩ := List.mem_map.1 hz
    obtain ⟨x, hx⟩ := hint' p hp
    have h1 := hin p hp x hx
    simp only [f, hx]
    omega)
  rw [List.length_map, hlen] at this
  exact this

end Go.Proofs.Ythbkklnahhdgcaa.ChM
