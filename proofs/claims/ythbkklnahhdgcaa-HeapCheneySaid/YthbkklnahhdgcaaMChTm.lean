/-
  moved: a list that moves.
-/
import Derived.Test.YthbkklnahhdgcaaMChTl
namespace Go.Proofs.Ythbkklnahhdgcaa.ChTm
open Go Go.Proofs Go.RowKit Go.Maps Go.Proofs.Ythbkklnahhdgcaa.Lib Go.Proofs.Ythbkklnahhdgcaa.HeapR Go.Proofs.Ythbkklnahhdgcaa.HeapB Go.Proofs.Ythbkklnahhdgcaa.HeapC Go.Proofs.Ythbkklnahhdgcaa.HeapD Go.Proofs.Ythbkklnahhdgcaa.ChA Go.Proofs.Ythbkklnahhdgcaa.ChT Go.Proofs.Ythbkklnahhdgcaa.ChCa Go.Proofs.Ythbkklnahhdgcaa.ChCc Go.Proofs.Ythbkklnahhdgcaa.ChE Go.Proofs.Ythbkklnahhdgcaa.ChH Go.Proofs.Ythbkklnahhdgcaa.ChI Go.Proofs.Ythbkklnahhdgcaa.ChJ Go.Proofs.Ythbkklnahhdgcaa.ChL Go.Proofs.Ythbkklnahhdgcaa.ChN Go.Proofs.Ythbkklnahhdgcaa.ChO Go.Proofs.Ythbkklnahhdgcaa.ChQ Go.Proofs.Ythbkklnahhdgcaa.ChR Go.Proofs.Ythbkklnahhdgcaa.ChU Go.Proofs.Ythbkklnahhdgcaa.ChW Go.Proofs.Ythbkklnahhdgcaa.ChZ Go.Proofs.Ythbkklnahhdgcaa.ChTh Go.Proofs.Ythbkklnahhdgcaa.ChTk

/-- The object of 'moved', as it is made, and as it is set. -/
def ob0 : Ob := newOb (fresh 20 50) 2 0 1
def ob1 : Ob := { ob0 with fs := [⟨2, 5, ByteArray.empty⟩] }
theorem set_ob0 : setOb [ob0] ob0.addr 0 ⟨2, 5, ByteArray.empty⟩ = [ob1] := rfl
theorem raw_field {w : World} {hb nb mb : Nat} {ov rv : Value} {B : Nat} {H : HS} {nu ol : List Ob} (h : HR w hb nb mb ov rv B H) (hi : HI H nu ol) {o : Ob} (ho : o ∈ nu ++ ol) {i : Nat} {v : Vl} (hv : o.fs[i]? = some v) : H.raw ((o.addr : Int) + 1 + (i : Int)) = some v.cell := by
  have hcell : (o.cells 0)[1 + i]? = some v.cell := by
    rw [show 1 + i = i + 1 by omega]
    show (o.fs.map Vl.cell)[i]? = _
    rw [List.getElem?_map, hv]
    rfl
  have hraw := raw_obj h hi ho hcell
  rw [show (o.addr : Int) + 1 + (i : Int) = (o.addr : Int) + ((1 + i : Nat) : Int) by omega]
  exact hraw

set_option maxRecDepth 100000 in
set_option maxHeartbeats 4000000 in
theorem moved_any (w : World) : Calls Try.prog 5 #[] w fun e w' => e = .returned (.bool true) ∧ Below w.heap.size w w' := by
  have hnew := new_ok 20 50 w (by decide) (by decide) (by decide) (by decide)
  go_enter Try.func5, Try.ntmps5
  go_wp2_with fail
  refine hnew.mono ?_
  rintro e w1 ⟨rfl, hr1, hb1⟩
  clear hnew
  have halloc := alloc_ob hr1 (hi_fresh 20 50) 0 1 (by decide) (by decide) (by decide)
  go_wp2_with fail
  refine halloc.mono ?_
  rintro e w2 ⟨rfl, hr2, hi2, hT2⟩
  clear halloc
  have hz2 := hT2.size
  have hz1 := hb1.size
  have hb02 : Below w.heap.size w w2 := hb1.trans (hT2.below hz1 (fun k hk => by omega))
  have hba := (Below.refl w2.heap.size w2).alloc (Nat.le_refl _) (.cells #[.int .i64 4, .int .i64 ((newOb (fresh 20 50) 2 0 1).addr : Int), .string ByteArray.empty] 34 (0, 0))
  have hzb := hba.size
  have hset := set_ob (hr2.below hba) hi2 (o := ob0) (List.mem_singleton.2 rfl) (i := 0) (by decide) ⟨2, 5, ByteArray.empty⟩ (fun h => by cases h) (fun x hx => by
    rw [show x = ob0 from List.mem_singleton.1 hx]
    decide)
  go_wp2_with fail
  refine hset.mono ?_
  rintro e w4 ⟨rfl, hr4, hi4', hT4⟩
  clear hset
  have hi4 : HI (((fresh 20 50).alloc 2 0 1).setN (ob0.addr + 1 + 0) 2 5 ByteArray.empty) [ob1] [] := hi4'
  clear hi4'
  have hz4 := hT4.size
  have hlt1 := hr1.lt (.inl rfl)
  have hvl : w2.heap.size < (w2.alloc (.cells #[.int .i64 4, .int .i64 ((newOb (fresh 20 50) 2 0 1).addr : Int), .string ByteArray.empty] 34 (0, 0))).heap.size := by simp
  have hvw : w4.heap[w2.heap.size]? = some (.cells #[.int .i64 4, .int .i64 ((newOb (fresh 20 50) 2 0 1).addr : Int), .string ByteArray.empty] 34 (0, 0)) := (hT4.block _ hvl (by omega)).trans (heap_alloc_last w2 _)
  have hv5 := (Below.heap_alloc w4 (.cells #[.pointer (some ⟨w2.heap.size, 0, none⟩)] 40 (0, 0)) _ (Nat.lt_of_lt_of_le hvl hz4)).trans hvw
  have hba5 := (Below.refl w4.heap.size w4).alloc (Nat.le_refl _) (.cells #[.pointer (some ⟨w2.heap.size, 0, none⟩)] 40 (0, 0))
  have hz5 := hba5.size
  have hR : RootsAt (w4.alloc (.cells #[.pointer (some ⟨w2.heap.size, 0, none⟩)] 40 (0, 0))) (Owns (w.heap.size + 2) w.heap.size (w.heap.size + 1) (.slice none 0 0) (.slice none 0 0)) (.slice (some ⟨w4.heap.size, 0, none⟩) 1 1) [(w2.heap.size, 0)] (fun _ => refV ob1) := {
    cell := fun a ha => by
      rw [List.mem_singleton.1 ha]
      exact ⟨cell_of_block hv5 rfl, cell_of_block hv5 rfl, cell_of_block hv5 rfl, frozen_of_block hv5⟩
    out := fun a ha => by
      rw [List.mem_singleton.1 ha]
      exact fun ho => Nat.lt_irrefl _ (hr2.lt ho)
    blk := fun a ha => by
      rw [List.mem_singleton.1 ha]
      exact ⟨_, _, hv5⟩
    apart := fun a ha b hb => .inl ((List.mem_singleton.1 ha).trans (List.mem_singleton.1 hb).symm)
    len := show 1 ≤ big by decide
    list := ⟨some ⟨w4.heap.size, 0, none⟩, w4.heap.size, 0, 1, rfl, fun i a ha => by
      have hi0 : i = 0 := Nat.lt_one_iff.1 (List.getElem?_eq_some_iff.1 ha).1
      subst hi0
      obtain rfl : (w2.heap.size, 0) = a := Option.some.inj ha
      exact ⟨rfl, cell_of_block (heap_alloc_last w4 _) rfl, fun ho => by have := hr4.lt ho; omega, fun b hb => by
        rw [List.mem_singleton.1 hb]
        show w2.heap.size ≠ w4.heap.size
        omega⟩⟩ }
  have hmem1 : ob1 ∈ [ob1] ++ ([] : List Ob) := List.mem_singleton.2 rfl
  have hminor := minor_ok (hr4.below hba5) hi4 hR (fun a _ _ => ⟨ob1, hmem1, rfl⟩) (show 2 ≤ 50 by decide) (show 1 ≤ big by decide) (Nat.zero_le _) (show 0 < big by decide)
  go_wp2_with fail
  refine hminor.mono ?_
  rintro e w6 ⟨rfl, tv, H6, L, M⟩
  clear hminor
  have hK := M.kept
  have hx : ob1 ∈ L := hK.of_has hmem1 (M.roots (w2.heap.size, 0) (List.mem_singleton.2 rfl) rfl rfl)
  have hfrom : ∀ o ∈ L, o = ob1 := fun o ho => by
    have h1 := hK.inO o ho
    exact List.mem_singleton.1 (show o ∈ [ob1] from h1)
  have htL : total L ≤ 2 := by
    have h1 : total L ≤ total [ob1] := total_le hK.nd (fun o ho => by rw [hfrom o ho]; exact List.mem_singleton.2 rfl)
    exact h1
  have hlead := hK.leads (v := refV ob1) rfl ⟨ob1, hmem1, rfl⟩ (fun hf => M.roots (w2.heap.size, 0) (List.mem_singleton.2 rfl) rfl hf)
  have hcl := M.cells (w2.heap.size, 0) (List.mem_singleton.2 rfl)
  have hroom6 : H6.room = 20 := M.room
  have hr6 := M.hr
  have hT6 := M.turned
  obtain ⟨y, hy, ey, en⟩ := hlead
  have hyb : y = ob1 := hfrom y hy
  subst hyb
  obtain ⟨l6, o6, hi6, ho6, ht6, hn6, hf6, hd6⟩ : ∃ (l6 : List Ob) (o6 : Ob), HI H6 [] l6 ∧ o6 ∈ l6 ∧ total l6 ≤ 2 ∧ w6.cell? ⟨w2.heap.size, 1, none⟩ = some (.int .i64 (o6.addr : Int)) ∧ o6.fs = [⟨2, 5, ByteArray.empty⟩] ∧ o6.id = 1 := by
    refine ⟨_, _, M.hi, List.mem_map.2 ⟨ob1, hx, rfl⟩, ?_, ?_, ?_, rfl⟩
    · rw [total_mv]
      exact htL
    · have h1 := hcl.2.1
      rw [en] at h1
      exact h1
    · show [mvV _ _ _ ⟨2, 5, ByteArray.empty⟩] = _
      rw [mvV_id (by decide)]
  clear M hK hR hcl en hfrom hx hy ey htL hi4 hi2 hT2 hr2 hr1
  have hin6 := laid_in hi6.oa ho6
  have hget := get_ok hr6 (o6.addr : Int) 0 (by omega) (by omega) (o6.head 0) _ (head_obj hr6 hi6 (List.mem_append.2 (.inr ho6))) (by decide) (by show (0 : Int) < (o6.fs.length : Int); rw [hf6]; decide) (raw_field hr6 hi6 (List.mem_append.2 (.inr ho6)) (i := 0) (v := ⟨2, 5, ByteArray.empty⟩) (by rw [hf6]; rfl))
  go_wp2_with fail
  refine hget.mono ?_
  rintro e w7 ⟨rfl, hb7⟩
  clear hget
  have hn7 := (hb7.cell (p := ⟨w2.heap.size, 1, none⟩) (World.block_lt_of_cell? w6 _ hn6)).trans hn6
  have hz7 := hb7.size
  have hn8 : ∀ ob, (w7.alloc ob).cell? ⟨w2.heap.size, 1, none⟩ = some (.int .i64 (o6.addr : Int)) := fun ob => alloc_cell hn7 ob
  have hIdc := fun ob => Id_yes (hr6.below (hb7.trans (((Below.refl w7.heap.size w7).alloc (Nat.le_refl _) ob).mono hz7))) (o6.addr : Int) (by omega) (o6.head 0) (head_obj hr6 hi6 (List.mem_append.2 (.inr ho6)))
  go_wp2_with fail
  refine (hIdc _).mono ?_
  rintro e w9 ⟨rfl, hb9⟩
  clear hIdc
  rw [show (o6.head 0).id = 1 from hd6]
  have hfin : Below w.heap.size w w9 := by
    have h4 : Below w.heap.size w w4 := (hb02.alloc (by omega) _).trans (hT4.below (by omega) (fun k hk => by omega))
    have h6 : Below w.heap.size w w6 := (h4.alloc (by omega) _).trans (hT6.below (by omega) (fun k hk => by
      rcases hk with hk | ⟨a, ha, e⟩
      · exact hr4.own_lo hk
      · rw [List.mem_singleton.1 ha] at e
        have e2 : w2.heap.size = k := e
        omega))
    have hz6 := h6.size
    have h7 : Below w.heap.size w w7 := h6.trans (hb7.mono hz6)
    refine (h7.alloc (by omega) _).trans (hb9.mono ?_)
    simp
    omega
  clear hb9 hb7 hn7 hn8
  go_wp2
  go_ret
  exact ⟨rfl, hfin⟩
end Go.Proofs.Ythbkklnahhdgcaa.ChTm
