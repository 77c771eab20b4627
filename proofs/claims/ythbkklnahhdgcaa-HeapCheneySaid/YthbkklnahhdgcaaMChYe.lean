/-
  Package heap's Major: what the memory holds behind it.
-/
import Derived.Test.YthbkklnahhdgcaaMChYd
namespace Go.Proofs.Ythbkklnahhdgcaa.ChYe
open Go Go.Proofs Go.RowKit Go.Maps Go.Proofs.Ythbkklnahhdgcaa.Lib Go.Proofs.Ythbkklnahhdgcaa.HeapR Go.Proofs.Ythbkklnahhdgcaa.HeapA Go.Proofs.Ythbkklnahhdgcaa.ChA Go.Proofs.Ythbkklnahhdgcaa.ChB Go.Proofs.Ythbkklnahhdgcaa.ChT Go.Proofs.Ythbkklnahhdgcaa.ChCa Go.Proofs.Ythbkklnahhdgcaa.ChCc Go.Proofs.Ythbkklnahhdgcaa.ChCd Go.Proofs.Ythbkklnahhdgcaa.ChD Go.Proofs.Ythbkklnahhdgcaa.ChE Go.Proofs.Ythbkklnahhdgcaa.ChF Go.Proofs.Ythbkklnahhdgcaa.ChG Go.Proofs.Ythbkklnahhdgcaa.ChH Go.Proofs.Ythbkklnahhdgcaa.ChI Go.Proofs.Ythbkklnahhdgcaa.ChJ Go.Proofs.Ythbkklnahhdgcaa.ChK Go.Proofs.Ythbkklnahhdgcaa.ChL Go.Proofs.Ythbkklnahhdgcaa.ChM Go.Proofs.Ythbkklnahhdgcaa.ChN Go.Proofs.Ythbkklnahhdgcaa.ChO Go.Proofs.Ythbkklnahhdgcaa.ChP Go.Proofs.Ythbkklnahhdgcaa.ChQ Go.Proofs.Ythbkklnahhdgcaa.ChR Go.Proofs.Ythbkklnahhdgcaa.ChU Go.Proofs.Ythbkklnahhdgcaa.ChV Go.Proofs.Ythbkklnahhdgcaa.ChX Go.Proofs.Ythbkklnahhdgcaa.ChYa Go.Proofs.Ythbkklnahhdgcaa.ChYb Go.Proofs.Ythbkklnahhdgcaa.ChYc Go.Proofs.Ythbkklnahhdgcaa.ChYd

/-- What the memory holds behind Major. -/
def MajorRaw (w : World) (hb nb mb : Nat) (ov rv : Value) (B : Nat) (H : HS) (nu ol : List Ob) (rs : List (Nat × Nat)) (f : Nat × Nat → Vl) (w' : World) : Prop :=
  ∃ (z : Nat) (p : Par) (tv : Value) (K : List Ob) (P : Nat → Bool) (wS : World), w.heap.size ≤ z ∧ p = majPar z hb nb mb ov rv B H nu ol (rootSrc rs f) ∧ CR p wS tv K P ∧ Done p P K (total K) ∧
    (∀ a ∈ rs, (f a).k = 4 → has K (f a).n.toNat) ∧ Roots p wS tv rs (fun a => fixV p K (f a)) ∧ Turned (fun k => k = nb ∨ ov.ownBlock = some k ∨ ∃ a ∈ rs, a.1 = k) w wS ∧ (∀ k, tv.ownBlock = some k → w.heap.size ≤ k) ∧
    Turned (fun k => k = hb) wS w' ∧ w'.heap[hb]? = some (.cells (((((hblock nb mb ov rv H).setIfInBounds 6 (.map (some z))).setIfInBounds 1 tv).setIfInBounds 2 (.int .i64 0)).setIfInBounds 5 (.slice none 0 0) |>.setIfInBounds 9 (.int .i64 ((H.majors : Int) + 1))) 49 (0, 0))

set_option maxRecDepth 100000 in
set_option maxHeartbeats 4000000 in
theorem major_raw {w : World} {hb nb mb : Nat} {ov rv : Value} {B : Nat} {H : HS} {nu ol : List Ob} (h : HR w hb nb mb ov rv B H) (hi : HI H nu ol) {v : Value} {rs : List (Nat × Nat)} {f : Nat × Nat → Vl} (hr : RootsAt w (Owns hb nb mb ov rv) v rs f) (hroot : ∀ a ∈ rs, (f a).k = 4 → ∃ x ∈ nu ++ ol, (f a).n = (x.addr : Int))
    (hnx : H.next ≤ big) (hmj : H.majors < big) :
    Calls Try.prog 12 #[.pointer (some ⟨hb, 0, none⟩), v] w fun e w' => ∃ S, S.Nodup ∧ (∀ o, o ∈ S ↔ Reached (nu ++ ol) (rootSrc rs f) o) ∧
      ((H.most < total S ∧ e = .returned (.iface 45 (.int .i64 12)) ∧ Below w.heap.size w w') ∨ (total S ≤ H.most ∧ e = .returned .nilIface ∧ MajorRaw w hb nb mb ov rv B H nu ol rs f w')) := by
  have hbl := h.lt (.inl rfl)
  have c4 := h.c4
  have hrd : RootsAt w.drew (Owns hb nb mb ov rv) v rs f := ⟨hr.cell, hr.out, hr.blk, hr.apart, hr.len, hr.list⟩
  obtain ⟨oa, rb, ro, c, hvv, hre⟩ := hr.list
  subst hvv
  have hlive := live_any (w := w.drew) (h.same (fun _ _ => rfl)) hi hrd hroot
  go_enter Try.func12, Try.ntmps12
  go_wp2_with fail
  go_region_held3 (fun wz => wz.cell? ⟨hb, 4, none⟩ = some (.int .i64 (H.most : Int))) (go_keep) ((go_at_call 27; refine hlive.mono ?_; rintro e w2 ⟨S, rfl, hb2, hS1, hS2⟩; have k2 : w2.cell? ⟨hb, 4, none⟩ = some (.int .i64 (H.most : Int)) := (hb2.cell (p := ⟨hb, 4, none⟩) hbl).trans c4))
  have hbw : Below w.heap.size w w2 := ⟨hb2.os, hb2.tape, hb2.output, hb2.size, hb2.block⟩
  clear hlive hrd hb2 k2
  by_cases hS : total S ≤ H.most
  · have hSd : decide (H.most < total S) = false := by
      simp only [decide_eq_false_iff_not]
      omega
    have hmm := @run_makeMap Try.prog
    have hzw := hbw.size
    have hbwa : Below w.heap.size w (((w2.alloc (.map #[] 0)).alloc (kblk hb (.slice none 0 0) (.func (Fn.func 28) #[] #[]) (.map (some w2.heap.size)))).alloc (.map #[] 0)) := ((hbw.alloc hzw _).alloc (by simp; omega) _).alloc (by simp; omega) _
    have hka : (((w2.alloc (.map #[] 0)).alloc (kblk hb (.slice none 0 0) (.func (Fn.func 28) #[] #[]) (.map (some w2.heap.size)))).alloc (.map #[] 0)).heap[w2.heap.size + 1]? = some (kblk hb (.slice none 0 0) (.func (Fn.func 28) #[] #[]) (.map (some w2.heap.size))) := by
      rw [Below.heap_alloc _ _ _ (by simp)]
      exact heap_alloc_at (by simp) _
    have hma : (((w2.alloc (.map #[] 0)).alloc (kblk hb (.slice none 0 0) (.func (Fn.func 28) #[] #[]) (.map (some w2.heap.size)))).alloc (.map #[] 0)).ownsMap Try.prog 3 (plainElem Try.prog 3) w2.heap.size 0 (.map [] : DataW Unit) := ((World.ownsMap_made w2 Try.prog 3 (plainElem Try.prog 3)).alloc _).alloc _
    have hsa : PSet (((w2.alloc (.map #[] 0)).alloc (kblk hb (.slice none 0 0) (.func (Fn.func 28) #[] #[]) (.map (some w2.heap.size)))).alloc (.map #[] 0)) (w2.heap.size + 2) [] := by
      have h1 := pset_made ((w2.alloc (.map #[] 0)).alloc (kblk hb (.slice none 0 0) (.func (Fn.func 28) #[] #[]) (.map (some w2.heap.size))))
      have e : ((w2.alloc (.map #[] 0)).alloc (kblk hb (.slice none 0 0) (.func (Fn.func 28) #[] #[]) (.map (some w2.heap.size)))).heap.size = w2.heap.size + 2 := by simp
      rw [e] at h1
      exact h1
    have HBW := Lib.hid hbw
    have HS2 := Lib.hid hS2
    have HRE := Lib.hid hre
    have HROOT := Lib.hid hroot
    clear hS2 hre hroot hbw
    go_wp2
    generalize hw3 : ((w2.alloc (.map #[] 0)).alloc (Obj.cells #[.pointer (some ⟨hb, 0, none⟩), .slice none 0 0, .func (Fn.func 28) #[] #[], .map (some w2.heap.size)] 65 (0, 0))).alloc (.map #[] 0) = w3
    have hbwa' : Below w.heap.size w w3 := by rw [← hw3]; exact hbwa
    have hka' : w3.heap[w2.heap.size + 1]? = some (kblk hb (.slice none 0 0) (.func (Fn.func 28) #[] #[]) (.map (some w2.heap.size))) := by rw [← hw3]; exact hka
    have hma' : w3.ownsMap Try.prog 3 (plainElem Try.prog 3) w2.heap.size 0 (.map [] : DataW Unit) := by rw [← hw3]; exact hma
    have hsa' : PSet w3 (w2.heap.size + 1 + 1) [] := by rw [← hw3]; exact hsa
    clear hw3 hbwa hka hma hsa hmm
    obtain ⟨z, hz⟩ : ∃ z, z = w2.heap.size := ⟨_, rfl⟩
    rw [← hz] at hka' hma' hsa' hzw ⊢
    obtain ⟨sb, hsbz⟩ : ∃ sb, sb = z + 1 + 1 := ⟨_, rfl⟩
    rw [← hsbz] at hsa' ⊢
    have hp := majPar_ok (src := rootSrc rs f) h hi (by have := big_lt; omega) hzw
    have hC := majPar_start (src := rootSrc rs f) h hi hzw hka' hma' hbwa'
    have hbw3 := hbwa'.size
    have hH0 : Half (majPar z hb nb mb ov rv B H nu ol (rootSrc rs f)) (.slice none 0 0) w3 [] (fun _ => false) rs f 0 w3 (.slice none 0 0) [] := by
      refine ⟨Nat.zero_le _, hC, ⟨fun a ha => ?_, fun a ha => maj_own hzw h hi (World.block_lt_of_cell? w _ (hr.cell a ha).1) (hr.out a ha), fun a ha => ?_⟩, fun a ha => (by rw [List.take_zero] at ha; cases ha), GrewR.refl _ _ _ _⟩
      · rw [List.take_zero, if_neg List.not_mem_nil]
        obtain ⟨q0, q1, q2, q3⟩ := hr.cell a ha
        have hbb := hbwa'.block a.1 (World.block_lt_of_cell? w _ q0)
        exact ⟨(World.cell?_of_block (a := ⟨a.1, a.2, none⟩) hbb).trans q0, (World.cell?_of_block (a := ⟨a.1, a.2 + 1, none⟩) hbb).trans q1, (World.cell?_of_block (a := ⟨a.1, a.2 + 2, none⟩) hbb).trans q2, (World.frozen?_of_block (a := ⟨a.1, a.2 + 1, none⟩) hbb).trans q3⟩
      · obtain ⟨c', t', e⟩ := hr.blk a ha
        exact ⟨c', t', (hbwa'.block a.1 (lt_of_block e)).trans e⟩
    have hre3 : ∀ (i : Nat) (a : Nat × Nat), rs[i]? = some a → oa = some ⟨rb, ro, none⟩ ∧ w3.cell? ⟨rb, ro + i, none⟩ = some (.pointer (some ⟨a.1, a.2, none⟩)) ∧ ¬ Tset (majPar z hb nb mb ov rv B H nu ol (rootSrc rs f)) (.slice none 0 0) rb ∧ (∀ b ∈ rs, b.1 ≠ rb) ∧ rb ≠ sb := fun i a hia => by
      obtain ⟨q1, q2, q3, q4⟩ := HRE.out i a hia
      have hl : rb < w.heap.size := World.block_lt_of_cell? w _ q2
      exact ⟨q1, (hbwa'.cell (p := ⟨rb, ro + i, none⟩) hl).trans q2, fun h' => maj_own hzw h hi hl q3 (tset_own h'), q4, by omega⟩
    have hlead : ∀ a ∈ rs, (f a).k = 4 → (majPar z hb nb mb ov rv B H nu ol (rootSrc rs f)).from_ (f a).n = true → ∃ o, Leads (majPar z hb nb mb ov rv B H nu ol (rootSrc rs f)) o ∧ (f a).n = (o.addr : Int) := fun a ha h1 _ => by
      obtain ⟨x, hx, e⟩ := HROOT.out a ha h1
      exact ⟨x, Leads.src hx ⟨a, ha, h1, e⟩, e⟩
    have hsbs : sb ≠ (majPar z hb nb mb ov rv B H nu ol (rootSrc rs f)).kb ∧ sb ≠ (majPar z hb nb mb ov rv B H nu ol (rootSrc rs f)).hb ∧ sb ≠ (majPar z hb nb mb ov rv B H nu ol (rootSrc rs f)).hv ∧ sb ≠ (majPar z hb nb mb ov rv B H nu ol (rootSrc rs f)).wb ∧ sb ≠ (majPar z hb nb mb ov rv B H nu ol (rootSrc rs f)).nb ∧ (∀ o ∈ (majPar z hb nb mb ov rv B H nu ol (rootSrc rs f)).O, ((majPar z hb nb mb ov rv B H nu ol (rootSrc rs f)).pl o.addr).1 ≠ sb) := by
      have hnl := h.lt (.inr (.inl rfl))
      refine ⟨(by show sb ≠ z + 1; omega), (by show sb ≠ hb; omega), (by show sb ≠ hb; omega), (by show sb ≠ z; omega), (by show sb ≠ nb; omega), fun o ho => ?_⟩
      rcases List.mem_append.mp (show o ∈ nu ++ ol from ho) with ho | ho
      · rw [pl_nu hi ho]
        show nb ≠ sb
        omega
      · rw [pl_ol hi ho]
        have h1 := h.lt (.inr (.inr (.inr (.inl (own_old h hi ho)))))
        show ov.ownBlock.getD 0 ≠ sb
        omega
    have hrsb : ∀ b ∈ rs, b.1 ≠ sb := fun b hb => by
      have h1 : b.1 < w.heap.size := World.block_lt_of_cell? w _ (hr.cell b hb).1
      omega
    have h0 : RelRM (majPar z hb nb mb ov rv B H nu ol (rootSrc rs f)) (.slice none 0 0) w3 (sb) (fun _ => false) rs f 0 w3 := ⟨.slice none 0 0, [], [], hH0, hsa', fun b => by rw [List.take_zero], GrewR.refl _ _ _ _⟩
    have E1 : (majPar z hb nb mb ov rv B H nu ol (rootSrc rs f)).kb = z + 1 := rfl
    rw [← E1]
    have Hz := Lib.hid hz
    have Hsbz := Lib.hid hsbz
    clear E1 hz hsbz hka' hma' hsa' hC hH0
    obtain ⟨p, hpp⟩ : ∃ p, p = majPar z hb nb mb ov rv B H nu ol (rootSrc rs f) := ⟨_, rfl⟩
    rw [← hpp] at hp hre3 hlead hsbs h0 ⊢
    have HP := Lib.hid hpp
    clear hpp
    refine major_roots hp _ _ _ _ _ _ _ _ _ _ _ _ _ _ _ _ _ _ _ _ _ _ _ _ _ _ _ _ _ _ _ _ _ _ _ _ _ _ _ _ _ _ _ _ _ _ _ _ _ _ _ _ _ _ _ _ _ _ _ _ _ _ _ oa rb ro c (.slice none 0 0) w3 (sb) (fun _ => false) rs f h0 hr.apart hr.len hre3 hlead hsbs hrsb ?_
    intro s8 s26 s27 s28 s29 s30 s31 s32 s33 s34 s35 s36 s37 s38 w4 hR4
    obtain ⟨tv4, K4, l4, hH4, hS4, hl4, hG4⟩ := hR4
    have hC4 := hH4.cr
    rw [List.nil_append] at hC4
    have e3 : p.hb = hb := by rw [HP.out]; rfl
    have e4 : p.base = [] := by rw [HP.out]; rfl
    have hscan := scan_any hp hC4 (fun j _ => rfl)
    rw [e4] at hscan
    have hscan' : Calls Try.prog 25 #[.pointer (some ⟨p.kb, 0, none⟩), .int .i64 0] w4 fun e w' => e = .returned (.tuple #[]) ∧ Scanned p tv4 w4 K4 (fun _ => false) w' := hscan
    have HE3 := Lib.hid e3
    have HE4 := Lib.hid e4
    clear hscan e3 e4
    go_wp2_with fail
    refine hscan'.mono ?_
    rintro e w6 ⟨rfl, tv6, K6, P6, hC6, hD6, hB6, hG6⟩
    clear hscan'
    have hTS : Turned (fun k => k = nb ∨ ov.ownBlock = some k ∨ ∃ a ∈ rs, a.1 = k) w w6 := by
      have h1 : GrewR p (extra rs sb) tv4 w4 tv6 w6 := GrewR.of _ hG6
      have h2 := hG4.trans h1
      have hz1 : z ≤ w3.heap.size := by
        rw [Hz.out]
        have := hbw3
        have h5 := hH4.cr
        exact Nat.le_of_lt (by
          have h6 := h0.choose_spec.choose_spec.choose_spec.1.cr.map.lt
          rw [HP.out] at h6
          have h7 : z < w3.heap.size := h6
          rw [← Hz.out]
          exact h7)
      refine ⟨h2.1.os.trans hbwa'.os, h2.1.tape.trans hbwa'.tape, h2.1.output.trans hbwa'.output, Nat.le_trans hbw3 h2.1.size, fun k hk hs => (h2.1.block k (by omega) (fun h' => ?_)).trans (hbwa'.block k hk)⟩
      rw [HP.out] at h'
      rcases h' with (h' | h' | h' | ⟨o, ho, h'⟩) | h' | h'
      · have h3 : k = z + 1 := h'
        omega
      · have h3 : k = z := h'
        omega
      · simp [Value.ownBlock] at h'
      · rcases List.mem_append.mp (show o ∈ nu ++ ol from ho) with ho | ho
        · rw [pl_nu hi ho] at h'
          exact hs (Or.inl h'.symm)
        · rw [pl_ol hi ho] at h'
          exact hs (Or.inr (Or.inl ((own_old h hi ho).trans (congrArg some h'))))
      · exact hs (Or.inr (Or.inr h'))
      · have h3 := Hsbz.out
        omega
    have hown6 : ∀ k, tv6.ownBlock = some k → w.heap.size ≤ k := fun k hk => by
      have h1 : GrewR p (extra rs sb) tv4 w4 tv6 w6 := GrewR.of _ hG6
      rcases (hG4.trans h1).2 k hk with h2 | h2
      · simp [Value.ownBlock] at h2
      · exact Nat.le_trans hbw3 h2
    have hhas6 : ∀ a ∈ rs, (f a).k = 4 → has (K4 ++ K6) (f a).n.toNat := fun a ha g1 => by
      have := hH4.has_ a (by rw [List.take_length]; exact ha) g1 (by rw [HP.out]; rfl)
      rw [List.nil_append] at this
      exact has_append.mpr (Or.inl this)
    have hRo6 : Roots p w6 tv6 rs (fun a => fixV p (K4 ++ K6) (f a)) := by
      have hRo4 : Roots p w4 tv4 rs (fun a => fixV p K4 (f a)) := hH4.roots.congr (fun a ha => by
        rw [List.take_length, if_pos ha, List.nil_append])
      refine ⟨fun a ha => ?_, fun a ha h' => ?_, fun a ha => ?_⟩
      · have hb6 := hG6.1.block a.1 (World.block_lt_of_cell? w4 _ (hRo4.cell a ha).1) (fun h' => hRo4.out a ha (tset_own h'))
        have hfx : fixV p (K4 ++ K6) (f a) = fixV p K4 (f a) := fixV_grow (fun g1 g2 => by
          have := hH4.has_ a (by rw [List.take_length]; exact ha) g1 g2
          rwa [List.nil_append] at this)
        rw [hfx]
        obtain ⟨q0, q1, q2, q3⟩ := hRo4.cell a ha
        exact ⟨(World.cell?_of_block (a := ⟨a.1, a.2, none⟩) hb6).trans q0, (World.cell?_of_block (a := ⟨a.1, a.2 + 1, none⟩) hb6).trans q1, (World.cell?_of_block (a := ⟨a.1, a.2 + 2, none⟩) hb6).trans q2, (World.frozen?_of_block (a := ⟨a.1, a.2 + 1, none⟩) hb6).trans q3⟩
      · have hnb := hRo4.out a ha
        have hal := World.block_lt_of_cell? w4 _ (hRo4.cell a ha).1
        rcases h' with h' | h' | h' | h' | h' | h' | h'
        · exact hnb (.inl h')
        · exact hnb (.inr (.inl h'))
        · exact hnb (.inr (.inr (.inl h')))
        · exact hnb (.inr (.inr (.inr (.inl h'))))
        · rcases hG6.2 _ h' with h2 | h2
          · exact hnb (.inr (.inr (.inr (.inr (.inl h2)))))
          · exact absurd hal (Nat.not_lt.mpr h2)
        · exact hnb (.inr (.inr (.inr (.inr (.inr (.inl h'))))))
        · exact hnb (.inr (.inr (.inr (.inr (.inr (.inr h'))))))
      · obtain ⟨c', t', e⟩ := hRo4.blk a ha
        exact ⟨c', t', (hG6.1.block a.1 (lt_of_block e) (fun h' => hRo4.out a ha (tset_own h'))).trans e⟩
    have hb6 : w6.heap[hb]? = some (.cells (hblock nb mb ov rv H) 49 (0, 0)) := by
      have h1 := hC6.hblk
      rw [HP.out] at h1
      exact h1
    have hkk : w6.heap[p.kb]? = some (kblk hb tv6 p.fn (.map (some z))) := by
      have h1 := hC6.kblk
      rw [HE3.out] at h1
      have e7 : p.wb = z := by rw [HP.out]; rfl
      rw [e7] at h1
      exact h1
    have hkh : p.kb ≠ hb := by rw [← HE3.out]; exact hp.kh
    have hTv := own_slice hC6.row
    have A1 := Lib.hid hown6
    have A2 := Lib.hid hhas6
    have A3 := Lib.hid hD6
    have A4 := Lib.hid hB6
    clear hown6 hhas6 hD6 hB6
    go_wp2_with fail
    refine major_write _ _ _ _ _ _ _ _ _ _ _ _ _ _ _ _ _ _ _ _ _ _ _ _ _ _ _ _ _ _ _ _ _ _ _ _ _ _ _ _ _ _ _ _ _ _ _ _ _ _ _ _ _ _ _ _ _ _ _ _ _ _ _ _ _ _ hb p.kb z (hblock nb mb ov rv H) tv6 p.fn w6 hb6 rfl hkk ⟨hTv.choose, _, hTv.choose_spec.choose, hTv.choose_spec.choose_spec⟩ hkh ?_
    intro s41 s42 s43 s44 s45 s46 s47 s48 s49 s50 s51 s52 s53 s54 s55 s56 s57 s58 s59 s60 w10 hb10 hT10
    have c910 : w10.cell? ⟨hb, 9, none⟩ = some (.int .i64 (H.majors : Int)) := cell_of_block hb10 rfl
    have f910 : w10.frozen? ⟨hb, 9, none⟩ = false := frozen_of_block hb10
    have hms : wrap64 ((H.majors : Int) + 1) = (H.majors : Int) + 1 := wrap_two H.majors 1 hmj
    have hms' : IntKind.i64.wrap ((H.majors : Int) + 1) = (H.majors : Int) + 1 := wrapk_two H.majors 1 hmj
    have hb11 := blk_set (i := 9) hb10 (.int .i64 ((H.majors : Int) + 1))
    have hTf : Turned (fun k => k = hb) w6 (w10.setCell ⟨hb, 9, none⟩ (.int .i64 ((H.majors : Int) + 1))) := hT10.setCell (Or.inl rfl) _
    have H11 := Lib.hid hb11
    have HTf := Lib.hid hTf
    clear hb11 hTf hb10 hT10 hb6 hkk
    go_wp2
    go_ret
    refine ⟨S, hS1, HS2.out, Or.inr ⟨hS, rfl, z, p, tv6, K4 ++ K6, P6, w6, hzw, HP.out, hC6, ?_, A2.out, hRo6, hTS, A1.out, HTf.out, H11.out⟩⟩
    have h1 := A3.out
    rw [HE4.out] at h1
    intro j c h2 h3
    exact h1 j c h2 (by simpa using h3)
  · have hSd : decide (H.most < total S) = true := by
      simp only [decide_eq_true_eq]
      omega
    go_wp2
    go_ret
    exact ⟨S, hS1, hS2, Or.inl ⟨by omega, rfl, hbw⟩⟩

end Go.Proofs.Ythbkklnahhdgcaa.ChYe
