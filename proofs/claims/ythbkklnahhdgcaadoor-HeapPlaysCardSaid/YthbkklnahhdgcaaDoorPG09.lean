/-
  Package heap's Copy: a heap of its own with the same data.
-/
import Derived.Test.YthbkklnahhdgcaaDoorPG00
import Derived.Test.YthbkklnahhdgcaaDoorPG08
import Derived.Deep.AppendLies
set_option maxRecDepth 100000
set_option maxHeartbeats 4000000
namespace Go.Proofs.YthbkklnahhdgcaaDoor.PlC
open Go Go.Proofs Go.RowKit Go.Maps Go.Proofs.YthbkklnahhdgcaaDoor.Lib HeapR HeapB HeapC HeapD ChA ChT ChCa ChCc ChE ChL ChN ChO PlB

theorem row_low {w : World} {base base' e size : Nat} {v : Value} {n : Nat} {xs : List Value} (h : w.ownsRow base e size v n xs) (hle : base' ≤ base) : w.ownsRow base' e size v n xs := by
  refine ⟨h.1, ?_⟩
  rcases h.2 with h1 | ⟨g, cap, cur, h1, h2, h3⟩
  · exact .inl h1
  · exact .inr ⟨g, cap, cur, h1, Nat.le_trans hle h2, h3⟩
/-- The same heap, as far as it can be seen. -/
structure Like (H H' : HS) : Prop where
  nur : H'.nur.take H.room = H.nur.take H.room
  old : H'.old = H.old
  top : H'.top = H.top
  room : H'.room = H.room
  most : H'.most = H.most
  rem : H'.rem = H.rem
  wh : H'.wh = H.wh
  next : H'.next = H.next
  minors : H'.minors = H.minors
  majors : H'.majors = H.majors
theorem hi_like {H H' : HS} {nu ol : List Ob} (hi : HI H nu ol) (e : Like H H') (ht : H.top ≤ H.room) (hl : H.room ≤ H'.nur.length) : HI H' nu ol := {
  nur := by
    rw [e.top]
    have h1 := hi.nur
    have h2 : H.nur.take H.top = (H.nur.take H.room).take H.top := by rw [List.take_take, Nat.min_eq_left ht]
    have h3 : H'.nur.take H.top = (H'.nur.take H.room).take H.top := by rw [List.take_take, Nat.min_eq_left ht]
    rw [h3, e.nur, ← h2, h1]
  old := e.old.trans hi.old
  tlen := by rw [e.top]; omega
  na := hi.na
  oa := by rw [e.room]; exact hi.oa
  fit := by rw [e.room]; exact hi.fit
  refs := hi.refs
  rem1 := by rw [e.rem, e.room, e.old]; exact hi.rem1
  rem2 := by rw [e.rem, e.room, e.old]; exact hi.rem2
  wh := by rw [e.wh]; exact hi.wh
  ids := by rw [e.next]; exact hi.ids
  named := hi.named
  kinds := hi.kinds }

theorem copy_any {w : World} {hb nb mb : Nat} {ov rv : Value} {B : Nat} {H : HS} (h : HR w hb nb mb ov rv B H) (h0 : 0 < H.room) (hrem : H.rem.length ≤ big) :
    Calls Tryd.prog 29 #[.pointer (some ⟨hb, 0, none⟩)] w fun e w' => ∃ hb' nb' mb' ov' rv' H', e = .returned (.pointer (some ⟨hb', 0, none⟩)) ∧ HR w' hb' nb' mb' ov' rv' w.heap.size H' ∧ Like H H' ∧ Below w.heap.size w w' := by
  obtain ⟨oa, oc, hov⟩ : ∃ oa oc, ov = .slice oa H.old.length oc := by
    rcases h.old.2 with ⟨h1, h2⟩ | ⟨g, cap, cur, h1, _⟩
    · exact ⟨none, 0, by rw [h1, h2]⟩
    · exact ⟨_, _, h1⟩
  obtain ⟨ra, rc, hrv⟩ : ∃ ra rc, rv = .slice ra H.rem.length rc := by
    rcases h.rem.2 with ⟨h1, h2⟩ | ⟨g, cap, cur, h1, _⟩
    · exact ⟨none, 0, by rw [h1, h2]⟩
    · exact ⟨_, _, h1⟩
  subst hov hrv
  have hb1 := (Below.refl w.heap.size w).alloc (Nat.le_refl _) (.cells (hblock nb mb (.slice oa H.old.length oc) (.slice ra H.rem.length rc) H) 98 (0, 0))
  have h1 := h.below hb1
  have hz1 : (w.alloc (.cells (hblock nb mb (.slice oa H.old.length oc) (.slice ra H.rem.length rc) H) 98 (0, 0))).heap.size = w.heap.size + 1 := by simp
  have hX1 := heap_alloc_last w (.cells (hblock nb mb (.slice oa H.old.length oc) (.slice ra H.rem.length rc) H) 98 (0, 0))
  have k0 := h.c0
  have k1 := h.c1
  have k2 := h.c2
  have k3 := h.c3
  have k4 := h.c4
  have k5 := h.c5
  have k6 := h.c6
  have k7 := h.c7
  have k8 := h.c8
  have k9 := h.c9
  have hlt := h.lt (.inl rfl)
  go_enter Tryd.func29, Tryd.ntmps29
  go_wp2_with fail
  generalize hw1 : w.alloc (.cells (hblock nb mb (.slice oa H.old.length oc) (.slice ra H.rem.length rc) H) 98 (0, 0)) = w1 at *
  have hW1 : w.alloc (.cells #[.slice (some ⟨nb,0,none⟩) H.room H.cap,.slice oa H.old.length oc,.int .i64 H.top,.int .i64 H.room,.int .i64 H.most,.slice ra H.rem.length rc,.map (some mb),.int .i64 H.next,.int .i64 H.minors,.int .i64 H.majors] 98 (0, 0)) = w1 := hw1
  rw [hW1]
  clear hW1 hw1 k0 k1 k2 k3 k4 k5 k6 k7 k8 k9
  have j0 := h1.c0
  have j1 := h1.c1
  have j5 := h1.c5
  have hr := h1.rr
  have hm := h1.mm
  have hom := h1.om
  have hbig := big_lt
  have hz1' : w.heap.size < w1.heap.size := by omega
  have hlt1 : hb < w1.heap.size := by omega
  have hd1 : Below w1.heap.size w1 w1.drew := (Below.refl _ w1).drew
  have hdz : w1.heap.size ≤ w1.drew.heap.size := hd1.size
  have h1d := h1.below hd1
  refine RegU.begin (S := fun wz => wz.cell? ⟨hb, 0, none⟩ = some (.slice (some ⟨nb, 0, none⟩) H.room H.cap) ∧ wz.cell? ⟨hb, 1, none⟩ = some (.slice oa H.old.length oc) ∧ wz.cell? ⟨hb, 5, none⟩ = some (.slice ra H.rem.length rc)) (N := [4, 5, 6, 7, 8, 9, 10, 11, 12, 13]) (by kernel_rfl) ?_ (fun hHeld => ?_)
  · (try dsimp only); first | assumption | go_keep
  refine RegU.tk [1, 2, 3, 4, 9, 14, 15, 16, 17, 18, 19, 20] 0 ?_
  refine RegU.tk [2, 3, 4, 9, 14, 15, 16, 17, 18, 19, 20] 1 ?_
  refine RegU.tk [3, 4, 9, 14, 15, 16, 17, 18, 19, 20] 2 ?_
  refine RegU.tk [4, 9, 14, 15, 16, 17, 18, 19, 20] 3 ?_
  refine RegU.tk [6, 7, 8, 9, 14, 15, 16, 17, 18, 19, 20] 5 ?_
  refine RegU.tk [7, 8, 9, 14, 15, 16, 17, 18, 19, 20] 6 ?_
  refine RegU.tk [8, 9, 14, 15, 16, 17, 18, 19, 20] 7 ?_
  refine RegU.tk [9, 14, 15, 16, 17, 18, 19, 20] 8 ?_
  refine RegU.tk [11, 12, 13, 14, 15, 16, 17, 18, 19, 20] 10 ?_
  refine RegU.tk [12, 13, 14, 15, 16, 17, 18, 19, 20] 11 ?_
  refine RegU.tk [13, 14, 15, 16, 17, 18, 19, 20] 12 ?_
  refine RegU.tk [14, 15, 16, 17, 18, 19, 20] 13 ?_
  refine RegU.one (i := 4) (by kernel_rfl) rfl (fun K hK => ?_)
  go_simp
  refine (nclone nb H.room H.cap H.nur _ h1d.nur h1d.len h0 h1d.rr).mono ?_
  rintro e w2 ⟨g2, c2, L2, rfl, hg2, hN2, hl2, hL2, hB2⟩
  have hz2 := hB2.size
  have h2 := h1d.below hB2
  have hB12 : Below w1.heap.size w1 w2 := hd1.trans (hB2.mono hdz)
  refine hK.out _ _ ⟨(hB12.cell (p := ⟨hb, 0, none⟩) hlt1).trans j0, (hB12.cell (p := ⟨hb, 1, none⟩) hlt1).trans j1, (hB12.cell (p := ⟨hb, 5, none⟩) hlt1).trans j5⟩ (fun hHeld => ?_)
  clear hK K
  try simp only [Act.put, List.setIfInBounds_toArray, List.set_cons_zero, List.set_cons_succ]
  refine RegU.one (i := 9) (by kernel_rfl) rfl (fun K hK => ?_)
  go_simp
  refine (oclone _ _ _ _ _ h2.old (by have := h2.om; have := h2.mm; omega)).mono ?_
  rintro e w3 ⟨ov3, rfl, hO3, hB3⟩
  have hz3 := hB3.size
  have h3 := h2.below hB3
  have hB13 : Below w1.heap.size w1 w3 := hB12.trans (hB3.mono hB12.size)
  refine hK.out _ _ ⟨(hB13.cell (p := ⟨hb, 0, none⟩) hlt1).trans j0, (hB13.cell (p := ⟨hb, 1, none⟩) hlt1).trans j1, (hB13.cell (p := ⟨hb, 5, none⟩) hlt1).trans j5⟩ (fun hHeld => ?_)
  clear hK K
  try simp only [Act.put, List.setIfInBounds_toArray, List.set_cons_zero, List.set_cons_succ]
  refine RegU.one (i := 14) (by kernel_rfl) rfl (fun K hK => ?_)
  go_simp
  refine (iclone _ _ _ _ _ h3.rem (by unfold big at hrem; omega)).mono ?_
  rintro e w4 ⟨rv4, rfl, hR4, hB4⟩
  have hz4 := hB4.size
  have hB14 : Below w1.heap.size w1 w4 := hB13.trans (hB4.mono hB13.size)
  refine hK.out _ _ ⟨(hB14.cell (p := ⟨hb, 0, none⟩) hlt1).trans j0, (hB14.cell (p := ⟨hb, 1, none⟩) hlt1).trans j1, (hB14.cell (p := ⟨hb, 5, none⟩) hlt1).trans j5⟩ (fun hHeld => ?_)
  clear hK K
  try simp only [Act.put, List.setIfInBounds_toArray, List.set_cons_zero, List.set_cons_succ]
  refine RegU.rest [15, 16, 17, 18, 19, 20] [_, _, _, _, _, _] (by kernel_rfl) rfl ?_
  have h4 := h3.below hB4
  have hX4 := (hB14.block w.heap.size hz1').trans hX1
  have n1 : w.heap.size ≠ hb := by omega
  have n2 : hb ≠ w.heap.size := by omega
  have q0 : w4.cell? ⟨w.heap.size, 0, none⟩ = some (.slice (some ⟨nb, 0, none⟩) H.room H.cap) := cell_of_block hX4 rfl
  have q1 : w4.cell? ⟨w.heap.size, 1, none⟩ = some (.slice oa H.old.length oc) := cell_of_block hX4 rfl
  have q5 : w4.cell? ⟨w.heap.size, 5, none⟩ = some (.slice ra H.rem.length rc) := cell_of_block hX4 rfl
  have q6 : w4.cell? ⟨w.heap.size, 6, none⟩ = some (.map (some mb)) := cell_of_block hX4 rfl
  have qf : ∀ i, w4.frozen? ⟨w.heap.size, i, none⟩ = false := fun i => frozen_of_block hX4
  have q7 := h4.c6
  obtain ⟨oa3, oc3, hov3⟩ : ∃ oa oc, ov3 = .slice oa H.old.length oc := by
    rcases hO3.2 with ⟨h1, h2⟩ | ⟨g, cap, cur, h1, _⟩
    · exact ⟨none, 0, by rw [h1, h2]⟩
    · exact ⟨_, _, h1⟩
  obtain ⟨ra4, rc4, hrv4⟩ : ∃ ra rc, rv4 = .slice ra H.rem.length rc := by
    rcases hR4.2 with ⟨h1, h2⟩ | ⟨g, cap, cur, h1, _⟩
    · exact ⟨none, 0, by rw [h1, h2]⟩
    · exact ⟨_, _, h1⟩
  subst hov3 hrv4
  clear hHeld j0 j1 j5 h1d hd1 h1
  have hmne : mb ≠ w.heap.size := by have := h.lt (.inr (.inr (.inl rfl))); omega
  have hm5 : ((((w4.setCell ⟨w.heap.size, 0, none⟩ (.slice (some ⟨g2, 0, none⟩) H.room c2)).setCell ⟨w.heap.size, 1, none⟩ (.slice oa3 H.old.length oc3)).setCell ⟨w.heap.size, 5, none⟩ (.slice ra4 H.rem.length rc4))).ownsMap Tryd.prog 3 (plainElem Tryd.prog 3) mb H.next H.wh := HeapF.ownsMap_same h4.map (by
    rw [blk_ne hmne, blk_ne hmne, blk_ne hmne])
  have hX5 : ((((w4.setCell ⟨w.heap.size, 0, none⟩ (.slice (some ⟨g2, 0, none⟩) H.room c2)).setCell ⟨w.heap.size, 1, none⟩ (.slice oa3 H.old.length oc3)).setCell ⟨w.heap.size, 5, none⟩ (.slice ra4 H.rem.length rc4))).heap[w.heap.size]? = some (.cells #[.slice (some ⟨g2,0,none⟩) H.room c2,.slice oa3 H.old.length oc3,.int .i64 H.top,.int .i64 H.room,.int .i64 H.most,.slice ra4 H.rem.length rc4,.map (some mb),.int .i64 H.next,.int .i64 H.minors,.int .i64 H.majors] 98 (0, 0)) := by
    rw [blk_set (blk_set (blk_set hX4 _) _) _]
    rfl
  have hT5 : Turned (fun k => k = w.heap.size) w4 (((w4.setCell ⟨w.heap.size, 0, none⟩ (.slice (some ⟨g2, 0, none⟩) H.room c2)).setCell ⟨w.heap.size, 1, none⟩ (.slice oa3 H.old.length oc3)).setCell ⟨w.heap.size, 5, none⟩ (.slice ra4 H.rem.length rc4)) := Turned.setCell (Turned.setCell (Turned.setCell (Turned.refl (fun k => k = w.heap.size) w4) (p := ⟨w.heap.size, 0, none⟩) (.inl rfl) _) (p := ⟨w.heap.size, 1, none⟩) (.inl rfl) _) (p := ⟨w.heap.size, 5, none⟩) (.inl rfl) _
  have A0 := Lib.hid hX5
  have A1 := Lib.hid hT5
  have A2 := Lib.hid hm5
  have A3 := Lib.hid h4
  have A4 := Lib.hid hB14
  have A5 := Lib.hid hN2
  have A6 := Lib.hid hO3
  have A7 := Lib.hid hR4
  have A8 := Lib.hid hL2
  have A9 := Lib.hid hB2
  have A10 := Lib.hid hB3
  have A11 := Lib.hid hB4
  have A12 := Lib.hid hb1
  have A13 := Lib.hid h
  clear hX5 hT5 hm5 h4 hX4 hB14 hN2 hO3 hR4 hL2 hB2 hB3 hB4 hb1 h hB12 hB13 h2 h3 hX1
  have A14 := Lib.hid hz1
  have A16 := Lib.hid hl2
  clear hz1 hl2
  go_wp2_with fail
  generalize hw5 : (((w4.setCell ⟨w.heap.size, 0, none⟩ (.slice (some ⟨g2, 0, none⟩) H.room c2)).setCell ⟨w.heap.size, 1, none⟩ (.slice oa3 H.old.length oc3)).setCell ⟨w.heap.size, 5, none⟩ (.slice ra4 H.rem.length rc4)) = w5 at *
  clear hw5
  refine (mclone mb H.next H.wh w5 A2.out).mono ?_
  rintro e w6 ⟨rfl, hm6, hB6⟩
  have hX6 : w6.heap[w.heap.size]? = _ := (hB6.block w.heap.size (lt_of_block A0.out)).trans A0.out
  have r6 : w6.cell? ⟨w.heap.size, 6, none⟩ = some (.map (some mb)) := cell_of_block hX6 rfl
  have rf : ∀ i, w6.frozen? ⟨w.heap.size, i, none⟩ = false := fun i => frozen_of_block hX6
  have A17 := Lib.hid hX6
  have A18 := Lib.hid hm6
  have A19 := Lib.hid hB6
  clear hX6 hm6 hB6 q0 q1 q5 q6 q7 qf
  go_wp2
  go_ret
  have e7 : (w6.setCell ⟨w.heap.size, 6, none⟩ (.map (some w5.heap.size))).heap[w.heap.size]? = some (.cells (hblock g2 w5.heap.size (.slice oa3 H.old.length oc3) (.slice ra4 H.rem.length rc4) { H with nur := L2, cap := c2 }) 98 (0, 0)) := by
    rw [blk_set A17.out _]
    rfl
  have hz6 := A19.out.size
  have hz5 := A1.out.size
  have hz7 : (w6.setCell ⟨w.heap.size, 6, none⟩ (.map (some w5.heap.size))).heap.size = w6.heap.size := by simp [World.setCell]
  have o3 := fun k (hk : (Value.slice oa3 H.old.length oc3).ownBlock = some k) => own_lt A6.out hk
  have o4 := fun k (hk : (Value.slice ra4 H.rem.length rc4).ownBlock = some k) => own_lt A7.out hk
  have hg2l := lt_of_block A5.out
  have hd := (Below.refl w1.heap.size w1).drew.size
  have keep : ∀ k, k < w4.heap.size → k ≠ w.heap.size → (w6.setCell ⟨w.heap.size, 6, none⟩ (.map (some w5.heap.size))).heap[k]? = w4.heap[k]? := fun k hk hn => (blk_ne hn).trans ((A19.out.block k (by omega)).trans (A1.out.block k hk hn))
  refine ⟨w.heap.size, g2, w5.heap.size, _, _, { H with nur := L2, cap := c2 }, rfl, {
    blk := e7
    nur := (keep g2 (by omega) (by omega)).trans ((A11.out.block g2 (by omega)).trans ((A10.out.block g2 hg2l).trans A5.out))
    len := A16.out
    old := row_low (ownsRow_same (ownsRow_same A6.out (fun k hk => A11.out.block k (o3 k hk).2)) (fun k hk => keep k (by have := o3 k hk; omega) (by have := o3 k hk; omega))) (by omega)
    rem := row_low (ownsRow_same A7.out (fun k hk => keep k (by have := o4 k hk; omega) (by have := o4 k hk; omega))) (by omega)
    map := HeapF.ownsMap_same A18.out (blk_ne (show w5.heap.size ≠ w.heap.size by omega))
    hn := by omega
    oh := fun e => by have := o3 _ e; omega
    on := fun e => by have := o3 _ e; omega
    rh := fun e => by have := o4 _ e; omega
    rn := fun e => by have := o4 _ e; omega
    ro := by
      by_cases ho : (Value.slice oa3 H.old.length oc3).ownBlock = none
      · exact .inl ho
      · right
        intro e
        obtain ⟨k, hk⟩ := Option.ne_none_iff_exists'.1 ho
        have h1 := o3 k hk
        have h2 := o4 k (e ▸ hk)
        omega
    lo := by omega
    tr := A13.out.tr
    rr := A13.out.rr
    mm := A13.out.mm
    om := A13.out.om }, ⟨A8.out, rfl, rfl, rfl, rfl, rfl, rfl, rfl, rfl, rfl⟩, ?_⟩
  exact Below.setCell (((A12.out.trans (A4.out.mono (by omega))).trans (A1.out.below (by omega) (fun k hk => by omega))).trans (A19.out.mono (by omega))) (Nat.le_refl _) _
end Go.Proofs.YthbkklnahhdgcaaDoor.PlC

namespace Go.Proofs.YthbkklnahhdgcaaDoor.PlS
open Go Go.Proofs Go.RowKit Go.Maps Go.Proofs.YthbkklnahhdgcaaDoor.Lib HeapR HeapB HeapC HeapD HeapH ChA ChT ChCa ChCc ChE ChL ChN ChO PlB PlC

variable {w : World} {hb nb mb : Nat} {ov rv : Value} {B : Nat} {H : HS}
end Go.Proofs.YthbkklnahhdgcaaDoor.PlS
namespace Go.Proofs.YthbkklnahhdgcaaDoor.HeapR
open Go Go.Proofs Go.RowKit Go.Maps Go.Proofs.YthbkklnahhdgcaaDoor.Lib HeapR HeapB HeapC HeapD HeapH ChA ChT ChCa ChCc ChE ChL ChN ChO PlB PlC

open Go.Proofs.YthbkklnahhdgcaaDoor.PlS
variable {w : World} {hb nb mb : Nat} {ov rv : Value} {B : Nat} {H : HS}
/-- The heap behind a Set of a cell in the old part. -/
def HS.setO (H : HS) (m : Nat) (vk vn : Int) (vs : ByteArray) : HS :=
  { H with old := H.old.modify m fun d => { d with vk := vk, vn := vn, vs := vs }, rem := if vk = 4 ∧ vn < (H.room : Int) then H.rem ++ [(H.room : Int) + m] else H.rem }
end Go.Proofs.YthbkklnahhdgcaaDoor.HeapR
namespace Go.Proofs.YthbkklnahhdgcaaDoor.PlS
open Go Go.Proofs Go.RowKit Go.Maps Go.Proofs.YthbkklnahhdgcaaDoor.Lib HeapR HeapB HeapC HeapD HeapH ChA ChT ChCa ChCc ChE ChL ChN ChO PlB PlC

variable {w : World} {hb nb mb : Nat} {ov rv : Value} {B : Nat} {H : HS}
theorem row_set3 {w : World} {base g n c : Nat} {L : List HCell} (h : w.ownsRow base 105 8 (.slice (some ⟨g, 0, none⟩) n c) n (hvals L)) (i : Nat) (hi : i < L.length) (vk vn : Int) (vs : ByteArray) :
    (((w.setCell ⟨g, i * 8 + 4, none⟩ (.int .i64 vk)).setCell ⟨g, i * 8 + 4 + 1, none⟩ (.int .i64 vn)).setCell ⟨g, i * 8 + 4 + 2, none⟩ (.string vs)).ownsRow base 105 8 (.slice (some ⟨g, 0, none⟩) n c) n (hvals (L.modify i fun d => { d with vk := vk, vn := vn, vs := vs })) := by
  have h1 := ((((h.stored (i * 8 + 4) (.int .i64 vk)).1).stored (i * 8 + 4 + 1) (.int .i64 vn)).1.stored (i * 8 + 4 + 2) (.string vs)).1
  rw [hvals_set3 _ _ _ _ _ hi] at h1
  exact h1
theorem raw_old {a : Int} {c : HCell} (h0 : 0 ≤ a) (ha : (H.room : Int) ≤ a) (hr : H.raw a = some c) : H.old[(a - H.room).toNat]? = some c := by
  unfold HS.raw at hr
  rw [if_neg (by omega), if_neg (by omega)] at hr
  exact hr

theorem set_old_val (h : HR w hb nb mb ov rv B H) (a i : Int) (har : (H.room : Int) ≤ a) (ha : a + 1 + i ≤ 9223372036854775807) (vk vn : Int) (vs : ByteArray) (c d : HCell) (hd : H.head a = some c) (hi0 : 0 ≤ i) (hi : i < c.size) (hr : H.raw (a + 1 + i) = some d) (hvk : vk ≠ 4) :
    Calls Tryd.prog 12 #[.pointer (some ⟨hb, 0, none⟩), .int .i64 a, .int .i64 i, .agg #[.int .i64 vk, .int .i64 vn, .string vs]] w fun e w' => e = .returned .nilIface ∧ ∃ rv', HR w' hb nb mb ov rv' B (H.setO (a + 1 + i - H.room).toNat vk vn vs) ∧ Turned (fun k => ov.ownBlock = some k ∨ k = hb ∨ rv.ownBlock = some k) w w' ∧ (∀ k, rv'.ownBlock = some k → rv.ownBlock = some k ∨ w.heap.size ≤ k) := by
  have h' : HR (sw w vk vn vs) hb nb mb ov rv B H := h.below ((Below.refl w.heap.size w).alloc (Nat.le_refl _) _)
  have hrm0 : (0 : Int) ≤ (H.room : Int) := by omega
  have hG := get_ok h' a i (by omega) ha c d hd hi0 hi hr
  have hold := raw_old (by omega) (by omega) hr
  obtain ⟨g, oc, hov, hog, hcl⟩ := old_form h _ _ hold
  subst hov
  have hml := (List.getElem?_eq_some_iff.1 hold).1
  clear hcl hog
  unfold sw at hG
  have g1 : (vk == 4) = false := by simpa using hvk
  go_enter Tryd.func12, Tryd.ntmps12
  go_wp2_with (go_at_call 11; refine hG.mono ?_; rintro e w1 ⟨rfl, hbw⟩; have q0 : w1.cell? ⟨w.heap.size, 0, none⟩ = some (.int .i64 vk) := (by rw [hbw.cell (by simp)]; simp); have q1 : w1.cell? ⟨w.heap.size, 1, none⟩ = some (.int .i64 vn) := (by rw [hbw.cell (by simp)]; simp); have q2 : w1.cell? ⟨w.heap.size, 2, none⟩ = some (.string vs) := (by rw [hbw.cell (by simp)]; simp); have hz : w.heap.size < w1.heap.size := (by have := hbw.size; simp at this; omega))
  have hb2 : Below (w.alloc (.cells #[.int .i64 vk, .int .i64 vn, .string vs] 28)).heap.size (w.alloc (.cells #[.int .i64 vk, .int .i64 vn, .string vs] 28)) (w1.alloc (.cells #[.int .i64 d.vk, .int .i64 d.vn, .string d.vs] 28)) := hbw.alloc hbw.size _
  have p0 : (w1.alloc (.cells #[.int .i64 d.vk, .int .i64 d.vn, .string d.vs] 28)).cell? ⟨w.heap.size, 0, none⟩ = some (.int .i64 vk) := by show (w1.alloc (.cells #[.int .i64 d.vk, .int .i64 d.vn, .string d.vs] 28)).cell? ⟨w.heap.size, 0, none⟩ = _; rw [World.cell?_alloc_lt _ _ ⟨w.heap.size, 0, none⟩ hz]; exact q0
  have p1 : (w1.alloc (.cells #[.int .i64 d.vk, .int .i64 d.vn, .string d.vs] 28)).cell? ⟨w.heap.size, 1, none⟩ = some (.int .i64 vn) := by show (w1.alloc (.cells #[.int .i64 d.vk, .int .i64 d.vn, .string d.vs] 28)).cell? ⟨w.heap.size, 1, none⟩ = _; rw [World.cell?_alloc_lt _ _ ⟨w.heap.size, 1, none⟩ hz]; exact q1
  have p2 : (w1.alloc (.cells #[.int .i64 d.vk, .int .i64 d.vn, .string d.vs] 28)).cell? ⟨w.heap.size, 2, none⟩ = some (.string vs) := by show (w1.alloc (.cells #[.int .i64 d.vk, .int .i64 d.vn, .string d.vs] 28)).cell? ⟨w.heap.size, 2, none⟩ = _; rw [World.cell?_alloc_lt _ _ ⟨w.heap.size, 2, none⟩ hz]; exact q2
  generalize (w1.alloc (.cells #[.int .i64 d.vk, .int .i64 d.vn, .string d.vs] 28)) = w2 at *
  have h2 : HR w2 hb nb mb (.slice (some ⟨g, 0, none⟩) H.old.length oc) rv B H := h'.below hb2
  have hdr : ∀ n, HR (w2.drewN n) hb nb mb (.slice (some ⟨g, 0, none⟩) H.old.length oc) rv B H := fun n => h2.drewN n
  have hA : Calls Tryd.prog 36 #[.pointer (some ⟨hb, 0, none⟩), .int .i64 (a + 1 + i)] w2.drew fun e w' => e = .returned (.pointer (some ⟨g, (a + 1 + i - (H.room : Int)).toNat * 8, none⟩)) ∧ ∃ n, w' = w2.drew.drewN n :=
    HeapA.at_hi hb g H.old.length oc (a + 1 + i) H.room w2.drew h2.c1 h2.c3 hrm0 (by omega) (by omega) (by omega)
  have hT2 : Turned (fun k => (Value.slice (some ⟨g, 0, none⟩) H.old.length oc).ownBlock = some k ∨ k = hb ∨ rv.ownBlock = some k) w w2 := ((Turned.refl _ w).alloc _).trans (Turned.of_below _ hb2)
  have hgw := h.lt (.inr (.inr (.inr (.inl (rfl : (Value.slice (some ⟨g, 0, none⟩) H.old.length oc).ownBlock = some g)))))
  have hgn : g ≠ w.heap.size := Nat.ne_of_lt hgw
  have hbn : hb ≠ w.heap.size := by have := h.lt (.inl rfl); omega
  have hng : nb ≠ g := fun e => h2.on (by rw [e]; rfl)
  have hhg : hb ≠ g := fun e => h2.oh (by rw [e]; rfl)
  have hmg : mb ≠ g := fun e => h2.om' (by rw [e]; rfl)
  have hwz : w.heap.size < w2.heap.size := by have := hb2.size; simp at this; omega
  have hs1 : IntKind.i64.wrap (a + 1) = a + 1 := IntWalk.i64_in _ (by omega)
  have hs2 : IntKind.i64.wrap (a + 1 + i) = a + 1 + i := IntWalk.i64_in _ (by omega)
  clear q0 q1 q2 hz hbw hG h' hr hd hi hb2 hold
  refine RegU.begin (S := fun wz => wz.cell? ⟨w.heap.size, 0, none⟩ = some (.int .i64 vk) ∧ wz.cell? ⟨w.heap.size, 1, none⟩ = some (.int .i64 vn) ∧ wz.cell? ⟨w.heap.size, 2, none⟩ = some (.string vs)) (N := [1, 2, 3, 4, 5, 6]) (by kernel_rfl) ?_ (fun hHeld => ?_)
  · (try dsimp only); first | assumption | go_keep
  refine RegU.tk [5, 7, 8, 9] 0 ?_
  refine RegU.tk [2, 4, 5, 7, 8, 9] 1 ?_
  refine RegU.tk [4, 5, 7, 8, 9] 2 ?_
  refine RegU.tk [4, 5, 7, 8, 9] 3 ?_
  refine RegU.tk [5, 7, 8, 9] 4 ?_
  refine RegU.tk [7, 8, 9] 6 ?_
  refine RegU.one (i := 5) (by kernel_rfl) rfl (fun K hK => ?_)
  go_simp
  refine hA.mono ?_
  rintro e w' ⟨rfl, n3, rfl⟩
  refine hK.out _ _ ⟨p0, p1, p2⟩ (fun hHeld => ?_)
  clear hK K
  try simp only [Act.put, List.setIfInBounds_toArray, List.set_cons_zero, List.set_cons_succ]
  refine RegU.rest [7, 8, 9] [_, _, _] (by kernel_rfl) rfl ?_
  have hw3 : w2.drew.drewN n3 = w2.drewN (1 + n3) := by rw [← World.drewN_drewN]; rfl
  rw [hw3]
  have h3 := hdr (1 + n3)
  have hT3 := hT2.drewN (1 + n3)
  have p0 : (w2.drewN (1 + n3)).cell? ⟨w.heap.size, 0, none⟩ = some (.int .i64 vk) := p0
  have p1 : (w2.drewN (1 + n3)).cell? ⟨w.heap.size, 1, none⟩ = some (.int .i64 vn) := p1
  have p2 : (w2.drewN (1 + n3)).cell? ⟨w.heap.size, 2, none⟩ = some (.string vs) := p2
  have hwz3 : w.heap.size < (w2.drewN (1 + n3)).heap.size := hwz
  clear hdr hT2 hA h2 hw3
  generalize w2.drewN (1 + n3) = w3 at *
  obtain ⟨dd, hold⟩ : ∃ dd, H.old[(a + 1 + i - (H.room : Int)).toNat]? = some dd := ⟨_, List.getElem?_eq_getElem hml⟩
  obtain ⟨g', oc', hov, hog, hcl⟩ := old_form h3 _ _ hold
  have hgg : g = g' := by injection hov with e1 _ _; injection e1 with e1; injection e1
  subst hgg
  have hfz : ∀ j, w3.frozen? ⟨g, j, none⟩ = false := by
    rcases h3.old.2 with ⟨e, _⟩ | ⟨g2, _, _, e, _, hblk, _⟩
    · cases e
    · cases e
      exact fun j => frozen_of_block hblk
  have k4 := (hcl 4 (by omega)).1
  have k5 := (hcl 5 (by omega)).1
  have k6 := (hcl 6 (by omega)).1
  have hrow := row_set3 h3.old (a + 1 + i - (H.room : Int)).toNat hml vk vn vs
  generalize hmm : (a + 1 + i - (H.room : Int)).toNat = m at *
  have k5' : w3.cell? ⟨g, m * 8 + 4 + 1, none⟩ = dd.vals[5]? := k5
  have k6' : w3.cell? ⟨g, m * 8 + 4 + 2, none⟩ = dd.vals[6]? := k6
  have e4 : dd.vals[4]? = some (.int .i64 dd.vk) := rfl
  have e5 : dd.vals[5]? = some (.int .i64 dd.vn) := rfl
  have e6 : dd.vals[6]? = some (.string dd.vs) := rfl
  rw [e4] at k4
  rw [e5] at k5'
  rw [e6] at k6'
  have hT4 : Turned (fun k => (Value.slice (some ⟨g, 0, none⟩) H.old.length oc).ownBlock = some k ∨ k = hb ∨ rv.ownBlock = some k) w3 (((w3.setCell ⟨g, m * 8 + 4, none⟩ (.int .i64 vk)).setCell ⟨g, m * 8 + 4 + 1, none⟩ (.int .i64 vn)).setCell ⟨g, m * 8 + 4 + 2, none⟩ (.string vs)) :=
    Turned.setCell (Turned.setCell (Turned.setCell (Turned.refl _ w3) (p := ⟨g, m * 8 + 4, none⟩) (.inl (.inl rfl)) _) (p := ⟨g, m * 8 + 4 + 1, none⟩) (.inl (.inl rfl)) _) (p := ⟨g, m * 8 + 4 + 2, none⟩) (.inl (.inl rfl)) _
  have hO : ∀ k, k ≠ g → (((w3.setCell ⟨g, m * 8 + 4, none⟩ (.int .i64 vk)).setCell ⟨g, m * 8 + 4 + 1, none⟩ (.int .i64 vn)).setCell ⟨g, m * 8 + 4 + 2, none⟩ (.string vs)).heap[k]? = w3.heap[k]? := fun k hk => (blk_ne hk).trans ((blk_ne hk).trans (blk_ne hk))
  have A1 := Lib.hid h3
  have A2 := Lib.hid hT3
  have A3 := Lib.hid hT4
  have A4 := Lib.hid hrow
  have A5 := Lib.hid hO
  have A6 := Lib.hid h
  have A7 := Lib.hid hmm
  clear h3 hT3 hT4 hrow hO h hcl k5 k6 e4 e5 e6 hold hHeld hov hog hml
  go_wp2_with fail
  generalize hw5 : (((w3.setCell ⟨g, m * 8 + 4, none⟩ (.int .i64 vk)).setCell ⟨g, m * 8 + 4 + 1, none⟩ (.int .i64 vn)).setCell ⟨g, m * 8 + 4 + 2, none⟩ (.string vs)) = w5 at *
  clear hw5
  have r0 : w5.cell? ⟨w.heap.size, 0, none⟩ = some (.int .i64 vk) := (World.cell?_of_block (a := ⟨w.heap.size, 0, none⟩) (A5.out _ (Ne.symm hgn))).trans p0
  have r1 : w5.cell? ⟨w.heap.size, 1, none⟩ = some (.int .i64 vn) := (World.cell?_of_block (a := ⟨w.heap.size, 1, none⟩) (A5.out _ (Ne.symm hgn))).trans p1
  have r3 : w5.cell? ⟨hb, 3, none⟩ = some (.int .i64 H.room) := (World.cell?_of_block (a := ⟨hb, 3, none⟩) (A5.out _ hhg)).trans A1.out.c3
  have r5 : w5.cell? ⟨hb, 5, none⟩ = some rv := (World.cell?_of_block (a := ⟨hb, 5, none⟩) (A5.out _ hhg)).trans A1.out.c5
  have rf : w5.frozen? ⟨hb, 5, none⟩ = false := (World.frozen?_of_block (a := ⟨hb, 5, none⟩) (A5.out _ hhg)).trans (A1.out.fz 5)
  have d1 : decide ((H.room : Int) ≤ a) = true := by simpa using har
  clear p0 p1 p2 k4 k5' k6' hfz
  go_quiet (fail)
  go_wp2
  go_ret
  have hh := A1.out
  have hS : H.setO m vk vn vs = { H with old := H.old.modify m fun d => { d with vk := vk, vn := vn, vs := vs } } := by
    unfold HS.setO
    rw [if_neg (fun hh => hvk hh.1)]
  refine ⟨rfl, rv, ?_, A2.out.trans (A3.out.drewN _), fun k hk => .inl hk⟩
  rw [A7.out, hS]
  have keep : ∀ k, k ≠ g → (w5.drewN nq).heap[k]? = w3.heap[k]? := A5.out
  exact {
    blk := (keep hb hhg).trans (by rw [hh.blk]; simp only [hblock])
    nur := (keep nb hng).trans hh.nur
    len := hh.len
    old := by
      have := A4.out
      rw [List.length_modify]
      exact ownsRow_same this (fun _ _ => rfl)
    rem := ownsRow_same hh.rem fun k hk => keep k (fun e => by
      rcases hh.ro with h1 | h1
      · cases h1
      · exact h1 (by rw [hk, e]; rfl))
    map := HeapF.ownsMap_same hh.map (keep mb hmg)
    hn := hh.hn
    oh := hh.oh
    on := hh.on
    rh := hh.rh
    rn := hh.rn
    ro := hh.ro
    lo := hh.lo
    tr := hh.tr
    rr := hh.rr
    mm := hh.mm
    om := by simp only [List.length_modify]; exact hh.om }

theorem set_old_old (h : HR w hb nb mb ov rv B H) (a i : Int) (har : (H.room : Int) ≤ a) (ha : a + 1 + i ≤ 9223372036854775807) (vn : Int) (vs : ByteArray) (c d : HCell) (hd : H.head a = some c) (hi0 : 0 ≤ i) (hi : i < c.size) (hr : H.raw (a + 1 + i) = some d) (t : HCell) (hv : vn ≤ 9223372036854775807) (hn : H.head vn = some t) (hvo : (H.room : Int) ≤ vn) :
    Calls Tryd.prog 12 #[.pointer (some ⟨hb, 0, none⟩), .int .i64 a, .int .i64 i, .agg #[.int .i64 4, .int .i64 vn, .string vs]] w fun e w' => e = .returned .nilIface ∧ ∃ rv', HR w' hb nb mb ov rv' B (H.setO (a + 1 + i - H.room).toNat 4 vn vs) ∧ Turned (fun k => ov.ownBlock = some k ∨ k = hb ∨ rv.ownBlock = some k) w w' ∧ (∀ k, rv'.ownBlock = some k → rv.ownBlock = some k ∨ w.heap.size ≤ k) := by
  have h' : HR (sw w 4 vn vs) hb nb mb ov rv B H := h.below ((Below.refl w.heap.size w).alloc (Nat.le_refl _) _)
  have hrm0 : (0 : Int) ≤ (H.room : Int) := by omega
  have hG := get_ok h' a i (by omega) ha c d hd hi0 hi hr
  have hold := raw_old (by omega) (by omega) hr
  obtain ⟨g, oc, hov, hog, hcl⟩ := old_form h _ _ hold
  subst hov
  have hml := (List.getElem?_eq_some_iff.1 hold).1
  clear hcl hog
  unfold sw at hG
  have hN : ∀ w2, Below (w.alloc (.cells #[.int .i64 4, .int .i64 vn, .string vs] 28)).heap.size (w.alloc (.cells #[.int .i64 4, .int .i64 vn, .string vs] 28)) w2 → Calls Tryd.prog 35 #[.pointer (some ⟨hb, 0, none⟩), .int .i64 vn] w2 fun e w' => e = .returned (.tuple #[.pointer (some ⟨H.pb nb (.slice (some ⟨g, 0, none⟩) H.old.length oc) vn, H.po vn, none⟩), .bool true]) ∧ ∃ n, w' = w2.drewN n := fun w2 h2 => head_yes (h'.below h2) vn hv t hn
  go_enter Tryd.func12, Tryd.ntmps12
  go_wp2_with (first | (go_at_call 11; refine hG.mono ?_; rintro e w1 ⟨rfl, hbw⟩; have q0 : w1.cell? ⟨w.heap.size, 0, none⟩ = some (.int .i64 4) := (by rw [hbw.cell (by simp)]; simp); have q1 : w1.cell? ⟨w.heap.size, 1, none⟩ = some (.int .i64 vn) := (by rw [hbw.cell (by simp)]; simp); have q2 : w1.cell? ⟨w.heap.size, 2, none⟩ = some (.string vs) := (by rw [hbw.cell (by simp)]; simp); have hz : w.heap.size < w1.heap.size := (by have := hbw.size; simp at this; omega)) | (go_at_call 35; refine (hN _ ?_).mono ?_; exact hbw.alloc hbw.size _; rintro e w' ⟨rfl, n, rfl⟩))
  have hb2 : Below (w.alloc (.cells #[.int .i64 4, .int .i64 vn, .string vs] 28)).heap.size (w.alloc (.cells #[.int .i64 4, .int .i64 vn, .string vs] 28)) ((w1.alloc (.cells #[.int .i64 d.vk, .int .i64 d.vn, .string d.vs] 28)).drewN n) := below_drewN (hbw.alloc hbw.size _) _
  have p0 : ((w1.alloc (.cells #[.int .i64 d.vk, .int .i64 d.vn, .string d.vs] 28)).drewN n).cell? ⟨w.heap.size, 0, none⟩ = some (.int .i64 4) := by show (w1.alloc (.cells #[.int .i64 d.vk, .int .i64 d.vn, .string d.vs] 28)).cell? ⟨w.heap.size, 0, none⟩ = _; rw [World.cell?_alloc_lt _ _ ⟨w.heap.size, 0, none⟩ hz]; exact q0
  have p1 : ((w1.alloc (.cells #[.int .i64 d.vk, .int .i64 d.vn, .string d.vs] 28)).drewN n).cell? ⟨w.heap.size, 1, none⟩ = some (.int .i64 vn) := by show (w1.alloc (.cells #[.int .i64 d.vk, .int .i64 d.vn, .string d.vs] 28)).cell? ⟨w.heap.size, 1, none⟩ = _; rw [World.cell?_alloc_lt _ _ ⟨w.heap.size, 1, none⟩ hz]; exact q1
  have p2 : ((w1.alloc (.cells #[.int .i64 d.vk, .int .i64 d.vn, .string d.vs] 28)).drewN n).cell? ⟨w.heap.size, 2, none⟩ = some (.string vs) := by show (w1.alloc (.cells #[.int .i64 d.vk, .int .i64 d.vn, .string d.vs] 28)).cell? ⟨w.heap.size, 2, none⟩ = _; rw [World.cell?_alloc_lt _ _ ⟨w.heap.size, 2, none⟩ hz]; exact q2
  generalize ((w1.alloc (.cells #[.int .i64 d.vk, .int .i64 d.vn, .string d.vs] 28)).drewN n) = w2 at *
  have h2 : HR w2 hb nb mb (.slice (some ⟨g, 0, none⟩) H.old.length oc) rv B H := h'.below hb2
  have hdr : ∀ n, HR (w2.drewN n) hb nb mb (.slice (some ⟨g, 0, none⟩) H.old.length oc) rv B H := fun n => h2.drewN n
  have hA : Calls Tryd.prog 36 #[.pointer (some ⟨hb, 0, none⟩), .int .i64 (a + 1 + i)] w2.drew fun e w' => e = .returned (.pointer (some ⟨g, (a + 1 + i - (H.room : Int)).toNat * 8, none⟩)) ∧ ∃ n, w' = w2.drew.drewN n :=
    HeapA.at_hi hb g H.old.length oc (a + 1 + i) H.room w2.drew h2.c1 h2.c3 hrm0 (by omega) (by omega) (by omega)
  have hT2 : Turned (fun k => (Value.slice (some ⟨g, 0, none⟩) H.old.length oc).ownBlock = some k ∨ k = hb ∨ rv.ownBlock = some k) w w2 := ((Turned.refl _ w).alloc _).trans (Turned.of_below _ hb2)
  have hgw := h.lt (.inr (.inr (.inr (.inl (rfl : (Value.slice (some ⟨g, 0, none⟩) H.old.length oc).ownBlock = some g)))))
  have hgn : g ≠ w.heap.size := Nat.ne_of_lt hgw
  have hbn : hb ≠ w.heap.size := by have := h.lt (.inl rfl); omega
  have hng : nb ≠ g := fun e => h2.on (by rw [e]; rfl)
  have hhg : hb ≠ g := fun e => h2.oh (by rw [e]; rfl)
  have hmg : mb ≠ g := fun e => h2.om' (by rw [e]; rfl)
  have hwz : w.heap.size < w2.heap.size := by have := hb2.size; simp at this; omega
  have hs1 : IntKind.i64.wrap (a + 1) = a + 1 := IntWalk.i64_in _ (by omega)
  have hs2 : IntKind.i64.wrap (a + 1 + i) = a + 1 + i := IntWalk.i64_in _ (by omega)
  clear q0 q1 q2 hz hbw hG h' hr hd hi hb2 hold hN hn
  refine RegU.begin (S := fun wz => wz.cell? ⟨w.heap.size, 0, none⟩ = some (.int .i64 4) ∧ wz.cell? ⟨w.heap.size, 1, none⟩ = some (.int .i64 vn) ∧ wz.cell? ⟨w.heap.size, 2, none⟩ = some (.string vs)) (N := [1, 2, 3, 4, 5, 6]) (by kernel_rfl) ?_ (fun hHeld => ?_)
  · (try dsimp only); first | assumption | go_keep
  refine RegU.tk [5, 7, 8, 9] 0 ?_
  refine RegU.tk [2, 4, 5, 7, 8, 9] 1 ?_
  refine RegU.tk [4, 5, 7, 8, 9] 2 ?_
  refine RegU.tk [4, 5, 7, 8, 9] 3 ?_
  refine RegU.tk [5, 7, 8, 9] 4 ?_
  refine RegU.tk [7, 8, 9] 6 ?_
  refine RegU.one (i := 5) (by kernel_rfl) rfl (fun K hK => ?_)
  go_simp
  refine hA.mono ?_
  rintro e w' ⟨rfl, n3, rfl⟩
  refine hK.out _ _ ⟨p0, p1, p2⟩ (fun hHeld => ?_)
  clear hK K
  try simp only [Act.put, List.setIfInBounds_toArray, List.set_cons_zero, List.set_cons_succ]
  refine RegU.rest [7, 8, 9] [_, _, _] (by kernel_rfl) rfl ?_
  have hw3 : w2.drew.drewN n3 = w2.drewN (1 + n3) := by rw [← World.drewN_drewN]; rfl
  rw [hw3]
  have h3 := hdr (1 + n3)
  have hT3 := hT2.drewN (1 + n3)
  have p0 : (w2.drewN (1 + n3)).cell? ⟨w.heap.size, 0, none⟩ = some (.int .i64 4) := p0
  have p1 : (w2.drewN (1 + n3)).cell? ⟨w.heap.size, 1, none⟩ = some (.int .i64 vn) := p1
  have p2 : (w2.drewN (1 + n3)).cell? ⟨w.heap.size, 2, none⟩ = some (.string vs) := p2
  have hwz3 : w.heap.size < (w2.drewN (1 + n3)).heap.size := hwz
  clear hdr hT2 hA h2 hw3
  generalize w2.drewN (1 + n3) = w3 at *
  obtain ⟨dd, hold⟩ : ∃ dd, H.old[(a + 1 + i - (H.room : Int)).toNat]? = some dd := ⟨_, List.getElem?_eq_getElem hml⟩
  obtain ⟨g', oc', hov, hog, hcl⟩ := old_form h3 _ _ hold
  have hgg : g = g' := by injection hov with e1 _ _; injection e1 with e1; injection e1
  subst hgg
  have hfz : ∀ j, w3.frozen? ⟨g, j, none⟩ = false := by
    rcases h3.old.2 with ⟨e, _⟩ | ⟨g2, _, _, e, _, hblk, _⟩
    · cases e
    · cases e
      exact fun j => frozen_of_block hblk
  have k4 := (hcl 4 (by omega)).1
  have k5 := (hcl 5 (by omega)).1
  have k6 := (hcl 6 (by omega)).1
  have hrow := row_set3 h3.old (a + 1 + i - (H.room : Int)).toNat hml 4 vn vs
  generalize hmm : (a + 1 + i - (H.room : Int)).toNat = m at *
  have k5' : w3.cell? ⟨g, m * 8 + 4 + 1, none⟩ = dd.vals[5]? := k5
  have k6' : w3.cell? ⟨g, m * 8 + 4 + 2, none⟩ = dd.vals[6]? := k6
  have e4 : dd.vals[4]? = some (.int .i64 dd.vk) := rfl
  have e5 : dd.vals[5]? = some (.int .i64 dd.vn) := rfl
  have e6 : dd.vals[6]? = some (.string dd.vs) := rfl
  rw [e4] at k4
  rw [e5] at k5'
  rw [e6] at k6'
  have hT4 : Turned (fun k => (Value.slice (some ⟨g, 0, none⟩) H.old.length oc).ownBlock = some k ∨ k = hb ∨ rv.ownBlock = some k) w3 (((w3.setCell ⟨g, m * 8 + 4, none⟩ (.int .i64 4)).setCell ⟨g, m * 8 + 4 + 1, none⟩ (.int .i64 vn)).setCell ⟨g, m * 8 + 4 + 2, none⟩ (.string vs)) :=
    Turned.setCell (Turned.setCell (Turned.setCell (Turned.refl _ w3) (p := ⟨g, m * 8 + 4, none⟩) (.inl (.inl rfl)) _) (p := ⟨g, m * 8 + 4 + 1, none⟩) (.inl (.inl rfl)) _) (p := ⟨g, m * 8 + 4 + 2, none⟩) (.inl (.inl rfl)) _
  have hO : ∀ k, k ≠ g → (((w3.setCell ⟨g, m * 8 + 4, none⟩ (.int .i64 4)).setCell ⟨g, m * 8 + 4 + 1, none⟩ (.int .i64 vn)).setCell ⟨g, m * 8 + 4 + 2, none⟩ (.string vs)).heap[k]? = w3.heap[k]? := fun k hk => (blk_ne hk).trans ((blk_ne hk).trans (blk_ne hk))
  have A1 := Lib.hid h3
  have A2 := Lib.hid hT3
  have A3 := Lib.hid hT4
  have A4 := Lib.hid hrow
  have A5 := Lib.hid hO
  have A6 := Lib.hid h
  have A7 := Lib.hid hmm
  clear h3 hT3 hT4 hrow hO h hcl k5 k6 e4 e5 e6 hold hHeld hov hog hml
  go_wp2_with fail
  generalize hw5 : (((w3.setCell ⟨g, m * 8 + 4, none⟩ (.int .i64 4)).setCell ⟨g, m * 8 + 4 + 1, none⟩ (.int .i64 vn)).setCell ⟨g, m * 8 + 4 + 2, none⟩ (.string vs)) = w5 at *
  clear hw5
  have r0 : w5.cell? ⟨w.heap.size, 0, none⟩ = some (.int .i64 4) := (World.cell?_of_block (a := ⟨w.heap.size, 0, none⟩) (A5.out _ (Ne.symm hgn))).trans p0
  have r1 : w5.cell? ⟨w.heap.size, 1, none⟩ = some (.int .i64 vn) := (World.cell?_of_block (a := ⟨w.heap.size, 1, none⟩) (A5.out _ (Ne.symm hgn))).trans p1
  have r3 : w5.cell? ⟨hb, 3, none⟩ = some (.int .i64 H.room) := (World.cell?_of_block (a := ⟨hb, 3, none⟩) (A5.out _ hhg)).trans A1.out.c3
  have r5 : w5.cell? ⟨hb, 5, none⟩ = some rv := (World.cell?_of_block (a := ⟨hb, 5, none⟩) (A5.out _ hhg)).trans A1.out.c5
  have rf : w5.frozen? ⟨hb, 5, none⟩ = false := (World.frozen?_of_block (a := ⟨hb, 5, none⟩) (A5.out _ hhg)).trans (A1.out.fz 5)
  have d1 : decide ((H.room : Int) ≤ a) = true := by simpa using har
  have d2 : decide (vn < (H.room : Int)) = false := by simpa using hvo
  clear p0 p1 p2 k4 k5' k6' hfz
  go_quiet (fail)
  go_wp2
  go_ret
  have hh := A1.out
  have hS : H.setO m 4 vn vs = { H with old := H.old.modify m fun d => { d with vk := 4, vn := vn, vs := vs } } := by
    unfold HS.setO
    rw [if_neg (fun hh => absurd hh.2 (by omega))]
  refine ⟨rfl, rv, ?_, A2.out.trans (A3.out.drewN _), fun k hk => .inl hk⟩
  rw [A7.out, hS]
  have keep : ∀ k, k ≠ g → (w5.drewN nq).heap[k]? = w3.heap[k]? := A5.out
  exact {
    blk := (keep hb hhg).trans (by rw [hh.blk]; simp only [hblock])
    nur := (keep nb hng).trans hh.nur
    len := hh.len
    old := by
      have := A4.out
      rw [List.length_modify]
      exact ownsRow_same this (fun _ _ => rfl)
    rem := ownsRow_same hh.rem fun k hk => keep k (fun e => by
      rcases hh.ro with h1 | h1
      · cases h1
      · exact h1 (by rw [hk, e]; rfl))
    map := HeapF.ownsMap_same hh.map (keep mb hmg)
    hn := hh.hn
    oh := hh.oh
    on := hh.on
    rh := hh.rh
    rn := hh.rn
    ro := hh.ro
    lo := hh.lo
    tr := hh.tr
    rr := hh.rr
    mm := hh.mm
    om := by simp only [List.length_modify]; exact hh.om }

theorem set_old_new (h : HR w hb nb mb ov rv B H) (a i : Int) (har : (H.room : Int) ≤ a) (ha : a + 1 + i ≤ 9223372036854775807) (vn : Int) (vs : ByteArray) (c d : HCell) (hd : H.head a = some c) (hi0 : 0 ≤ i) (hi : i < c.size) (hr : H.raw (a + 1 + i) = some d) (t : HCell) (hv : vn ≤ 9223372036854775807) (hn : H.head vn = some t) (hvo : vn < (H.room : Int)) (hrl : H.rem.length ≤ big) :
    Calls Tryd.prog 12 #[.pointer (some ⟨hb, 0, none⟩), .int .i64 a, .int .i64 i, .agg #[.int .i64 4, .int .i64 vn, .string vs]] w fun e w' => e = .returned .nilIface ∧ ∃ rv', HR w' hb nb mb ov rv' B (H.setO (a + 1 + i - H.room).toNat 4 vn vs) ∧ Turned (fun k => ov.ownBlock = some k ∨ k = hb ∨ rv.ownBlock = some k) w w' ∧ (∀ k, rv'.ownBlock = some k → rv.ownBlock = some k ∨ w.heap.size ≤ k) := by
  have h' : HR (sw w 4 vn vs) hb nb mb ov rv B H := h.below ((Below.refl w.heap.size w).alloc (Nat.le_refl _) _)
  have hrm0 : (0 : Int) ≤ (H.room : Int) := by omega
  have hG := get_ok h' a i (by omega) ha c d hd hi0 hi hr
  have hold := raw_old (by omega) (by omega) hr
  obtain ⟨g, oc, hov, hog, hcl⟩ := old_form h _ _ hold
  subst hov
  have hml := (List.getElem?_eq_some_iff.1 hold).1
  clear hcl hog
  unfold sw at hG
  have hN : ∀ w2, Below (w.alloc (.cells #[.int .i64 4, .int .i64 vn, .string vs] 28)).heap.size (w.alloc (.cells #[.int .i64 4, .int .i64 vn, .string vs] 28)) w2 → Calls Tryd.prog 35 #[.pointer (some ⟨hb, 0, none⟩), .int .i64 vn] w2 fun e w' => e = .returned (.tuple #[.pointer (some ⟨H.pb nb (.slice (some ⟨g, 0, none⟩) H.old.length oc) vn, H.po vn, none⟩), .bool true]) ∧ ∃ n, w' = w2.drewN n := fun w2 h2 => head_yes (h'.below h2) vn hv t hn
  go_enter Tryd.func12, Tryd.ntmps12
  go_wp2_with (first | (go_at_call 11; refine hG.mono ?_; rintro e w1 ⟨rfl, hbw⟩; have q0 : w1.cell? ⟨w.heap.size, 0, none⟩ = some (.int .i64 4) := (by rw [hbw.cell (by simp)]; simp); have q1 : w1.cell? ⟨w.heap.size, 1, none⟩ = some (.int .i64 vn) := (by rw [hbw.cell (by simp)]; simp); have q2 : w1.cell? ⟨w.heap.size, 2, none⟩ = some (.string vs) := (by rw [hbw.cell (by simp)]; simp); have hz : w.heap.size < w1.heap.size := (by have := hbw.size; simp at this; omega)) | (go_at_call 35; refine (hN _ ?_).mono ?_; exact hbw.alloc hbw.size _; rintro e w' ⟨rfl, n, rfl⟩))
  have hb2 : Below (w.alloc (.cells #[.int .i64 4, .int .i64 vn, .string vs] 28)).heap.size (w.alloc (.cells #[.int .i64 4, .int .i64 vn, .string vs] 28)) ((w1.alloc (.cells #[.int .i64 d.vk, .int .i64 d.vn, .string d.vs] 28)).drewN n) := below_drewN (hbw.alloc hbw.size _) _
  have p0 : ((w1.alloc (.cells #[.int .i64 d.vk, .int .i64 d.vn, .string d.vs] 28)).drewN n).cell? ⟨w.heap.size, 0, none⟩ = some (.int .i64 4) := by show (w1.alloc (.cells #[.int .i64 d.vk, .int .i64 d.vn, .string d.vs] 28)).cell? ⟨w.heap.size, 0, none⟩ = _; rw [World.cell?_alloc_lt _ _ ⟨w.heap.size, 0, none⟩ hz]; exact q0
  have p1 : ((w1.alloc (.cells #[.int .i64 d.vk, .int .i64 d.vn, .string d.vs] 28)).drewN n).cell? ⟨w.heap.size, 1, none⟩ = some (.int .i64 vn) := by show (w1.alloc (.cells #[.int .i64 d.vk, .int .i64 d.vn, .string d.vs] 28)).cell? ⟨w.heap.size, 1, none⟩ = _; rw [World.cell?_alloc_lt _ _ ⟨w.heap.size, 1, none⟩ hz]; exact q1
  have p2 : ((w1.alloc (.cells #[.int .i64 d.vk, .int .i64 d.vn, .string d.vs] 28)).drewN n).cell? ⟨w.heap.size, 2, none⟩ = some (.string vs) := by show (w1.alloc (.cells #[.int .i64 d.vk, .int .i64 d.vn, .string d.vs] 28)).cell? ⟨w.heap.size, 2, none⟩ = _; rw [World.cell?_alloc_lt _ _ ⟨w.heap.size, 2, none⟩ hz]; exact q2
  generalize ((w1.alloc (.cells #[.int .i64 d.vk, .int .i64 d.vn, .string d.vs] 28)).drewN n) = w2 at *
  have h2 : HR w2 hb nb mb (.slice (some ⟨g, 0, none⟩) H.old.length oc) rv B H := h'.below hb2
  have hdr : ∀ n, HR (w2.drewN n) hb nb mb (.slice (some ⟨g, 0, none⟩) H.old.length oc) rv B H := fun n => h2.drewN n
  have hA : Calls Tryd.prog 36 #[.pointer (some ⟨hb, 0, none⟩), .int .i64 (a + 1 + i)] w2.drew fun e w' => e = .returned (.pointer (some ⟨g, (a + 1 + i - (H.room : Int)).toNat * 8, none⟩)) ∧ ∃ n, w' = w2.drew.drewN n :=
    HeapA.at_hi hb g H.old.length oc (a + 1 + i) H.room w2.drew h2.c1 h2.c3 hrm0 (by omega) (by omega) (by omega)
  have hT2 : Turned (fun k => (Value.slice (some ⟨g, 0, none⟩) H.old.length oc).ownBlock = some k ∨ k = hb ∨ rv.ownBlock = some k) w w2 := ((Turned.refl _ w).alloc _).trans (Turned.of_below _ hb2)
  have hgw := h.lt (.inr (.inr (.inr (.inl (rfl : (Value.slice (some ⟨g, 0, none⟩) H.old.length oc).ownBlock = some g)))))
  have hgn : g ≠ w.heap.size := Nat.ne_of_lt hgw
  have hbn : hb ≠ w.heap.size := by have := h.lt (.inl rfl); omega
  have hng : nb ≠ g := fun e => h2.on (by rw [e]; rfl)
  have hhg : hb ≠ g := fun e => h2.oh (by rw [e]; rfl)
  have hmg : mb ≠ g := fun e => h2.om' (by rw [e]; rfl)
  have hwz : w.heap.size < w2.heap.size := by have := hb2.size; simp at this; omega
  have hs1 : IntKind.i64.wrap (a + 1) = a + 1 := IntWalk.i64_in _ (by omega)
  have hs2 : IntKind.i64.wrap (a + 1 + i) = a + 1 + i := IntWalk.i64_in _ (by omega)
  clear q0 q1 q2 hz hbw hG h' hr hd hi hb2 hold hN hn
  refine RegU.begin (S := fun wz => wz.cell? ⟨w.heap.size, 0, none⟩ = some (.int .i64 4) ∧ wz.cell? ⟨w.heap.size, 1, none⟩ = some (.int .i64 vn) ∧ wz.cell? ⟨w.heap.size, 2, none⟩ = some (.string vs)) (N := [1, 2, 3, 4, 5, 6]) (by kernel_rfl) ?_ (fun hHeld => ?_)
  · (try dsimp only); first | assumption | go_keep
  refine RegU.tk [5, 7, 8, 9] 0 ?_
  refine RegU.tk [2, 4, 5, 7, 8, 9] 1 ?_
  refine RegU.tk [4, 5, 7, 8, 9] 2 ?_
  refine RegU.tk [4, 5, 7, 8, 9] 3 ?_
  refine RegU.tk [5, 7, 8, 9] 4 ?_
  refine RegU.tk [7, 8, 9] 6 ?_
  refine RegU.one (i := 5) (by kernel_rfl) rfl (fun K hK => ?_)
  go_simp
  refine hA.mono ?_
  rintro e w' ⟨rfl, n3, rfl⟩
  refine hK.out _ _ ⟨p0, p1, p2⟩ (fun hHeld => ?_)
  clear hK K
  try simp only [Act.put, List.setIfInBounds_toArray, List.set_cons_zero, List.set_cons_succ]
  refine RegU.rest [7, 8, 9] [_, _, _] (by kernel_rfl) rfl ?_
  have hw3 : w2.drew.drewN n3 = w2.drewN (1 + n3) := by rw [← World.drewN_drewN]; rfl
  rw [hw3]
  have h3 := hdr (1 + n3)
  have hT3 := hT2.drewN (1 + n3)
  have p0 : (w2.drewN (1 + n3)).cell? ⟨w.heap.size, 0, none⟩ = some (.int .i64 4) := p0
  have p1 : (w2.drewN (1 + n3)).cell? ⟨w.heap.size, 1, none⟩ = some (.int .i64 vn) := p1
  have p2 : (w2.drewN (1 + n3)).cell? ⟨w.heap.size, 2, none⟩ = some (.string vs) := p2
  have hwz3 : w.heap.size < (w2.drewN (1 + n3)).heap.size := hwz
  clear hdr hT2 hA h2 hw3
  generalize w2.drewN (1 + n3) = w3 at *
  obtain ⟨dd, hold⟩ : ∃ dd, H.old[(a + 1 + i - (H.room : Int)).toNat]? = some dd := ⟨_, List.getElem?_eq_getElem hml⟩
  obtain ⟨g', oc', hov, hog, hcl⟩ := old_form h3 _ _ hold
  have hgg : g = g' := by injection hov with e1 _ _; injection e1 with e1; injection e1
  subst hgg
  have hfz : ∀ j, w3.frozen? ⟨g, j, none⟩ = false := by
    rcases h3.old.2 with ⟨e, _⟩ | ⟨g2, _, _, e, _, hblk, _⟩
    · cases e
    · cases e
      exact fun j => frozen_of_block hblk
  have k4 := (hcl 4 (by omega)).1
  have k5 := (hcl 5 (by omega)).1
  have k6 := (hcl 6 (by omega)).1
  have hrow := row_set3 h3.old (a + 1 + i - (H.room : Int)).toNat hml 4 vn vs
  generalize hmm : (a + 1 + i - (H.room : Int)).toNat = m at *
  have k5' : w3.cell? ⟨g, m * 8 + 4 + 1, none⟩ = dd.vals[5]? := k5
  have k6' : w3.cell? ⟨g, m * 8 + 4 + 2, none⟩ = dd.vals[6]? := k6
  have e4 : dd.vals[4]? = some (.int .i64 dd.vk) := rfl
  have e5 : dd.vals[5]? = some (.int .i64 dd.vn) := rfl
  have e6 : dd.vals[6]? = some (.string dd.vs) := rfl
  rw [e4] at k4
  rw [e5] at k5'
  rw [e6] at k6'
  have hT4 : Turned (fun k => (Value.slice (some ⟨g, 0, none⟩) H.old.length oc).ownBlock = some k ∨ k = hb ∨ rv.ownBlock = some k) w3 (((w3.setCell ⟨g, m * 8 + 4, none⟩ (.int .i64 4)).setCell ⟨g, m * 8 + 4 + 1, none⟩ (.int .i64 vn)).setCell ⟨g, m * 8 + 4 + 2, none⟩ (.string vs)) :=
    Turned.setCell (Turned.setCell (Turned.setCell (Turned.refl _ w3) (p := ⟨g, m * 8 + 4, none⟩) (.inl (.inl rfl)) _) (p := ⟨g, m * 8 + 4 + 1, none⟩) (.inl (.inl rfl)) _) (p := ⟨g, m * 8 + 4 + 2, none⟩) (.inl (.inl rfl)) _
  have hO : ∀ k, k ≠ g → (((w3.setCell ⟨g, m * 8 + 4, none⟩ (.int .i64 4)).setCell ⟨g, m * 8 + 4 + 1, none⟩ (.int .i64 vn)).setCell ⟨g, m * 8 + 4 + 2, none⟩ (.string vs)).heap[k]? = w3.heap[k]? := fun k hk => (blk_ne hk).trans ((blk_ne hk).trans (blk_ne hk))
  have A1 := Lib.hid h3
  have A2 := Lib.hid hT3
  have A3 := Lib.hid hT4
  have A4 := Lib.hid hrow
  have A5 := Lib.hid hO
  have A6 := Lib.hid h
  have A7 := Lib.hid hmm
  clear h3 hT3 hT4 hrow hO h hcl k5 k6 e4 e5 e6 hold hHeld hov hog hml
  go_wp2_with fail
  generalize hw5 : (((w3.setCell ⟨g, m * 8 + 4, none⟩ (.int .i64 4)).setCell ⟨g, m * 8 + 4 + 1, none⟩ (.int .i64 vn)).setCell ⟨g, m * 8 + 4 + 2, none⟩ (.string vs)) = w5 at *
  clear hw5
  have r0 : w5.cell? ⟨w.heap.size, 0, none⟩ = some (.int .i64 4) := (World.cell?_of_block (a := ⟨w.heap.size, 0, none⟩) (A5.out _ (Ne.symm hgn))).trans p0
  have r1 : w5.cell? ⟨w.heap.size, 1, none⟩ = some (.int .i64 vn) := (World.cell?_of_block (a := ⟨w.heap.size, 1, none⟩) (A5.out _ (Ne.symm hgn))).trans p1
  have r3 : w5.cell? ⟨hb, 3, none⟩ = some (.int .i64 H.room) := (World.cell?_of_block (a := ⟨hb, 3, none⟩) (A5.out _ hhg)).trans A1.out.c3
  have r5 : w5.cell? ⟨hb, 5, none⟩ = some rv := (World.cell?_of_block (a := ⟨hb, 5, none⟩) (A5.out _ hhg)).trans A1.out.c5
  have rf : w5.frozen? ⟨hb, 5, none⟩ = false := (World.frozen?_of_block (a := ⟨hb, 5, none⟩) (A5.out _ hhg)).trans (A1.out.fz 5)
  have d1 : decide ((H.room : Int) ≤ a) = true := by simpa using har
  have d2 : decide (vn < (H.room : Int)) = true := by simpa using hvo
  clear p0 p1 p2 k4 k5' k6' hfz
  go_quiet (fail)
  obtain ⟨i0, hi1, hq0, hq1, hq2⟩ := info_parts infoInt
  have hh := A1.out
  have hrv5 : w5.ownsRow B 3 1 rv H.rem.length (H.rem.map (Value.int .i64)) := ownsRow_same hh.rem fun k hk => A5.out k (fun e => by
    rcases hh.ro with h1 | h1
    · cases h1
    · exact h1 (by rw [hk, e]; rfl))
  obtain ⟨ra, rc, hrv⟩ : ∃ ra rc, rv = .slice ra H.rem.length rc := by
    rcases hh.rem.2 with ⟨h1, h2⟩ | ⟨g, cap, cur, h1, _⟩
    · exact ⟨none, 0, by rw [h1, h2]⟩
    · exact ⟨_, _, h1⟩
  subst hrv
  have b3 : H.rem.length + 1 ≤ maxLen := by unfold big at hrl; unfold maxLen; omega
  have b4 : (H.rem.length + 1) * 8 ≤ 140737488355328 := by unfold big at hrl; omega
  have hw6 : Turned (fun _ => False) w5 (w5.drewN nq) := (Turned.refl _ w5).drewN nq
  have r5 : (w5.drewN nq).cell? ⟨hb, 5, none⟩ = some (.slice ra H.rem.length rc) := r5
  have rf : (w5.drewN nq).frozen? ⟨hb, 5, none⟩ = false := rf
  have hrv6 : (w5.drewN nq).ownsRow B 3 1 (.slice ra H.rem.length rc) H.rem.length (H.rem.map (Value.int .i64)) := ownsRow_same hrv5 (fun _ _ => rfl)
  have hblo : hb < w5.heap.size := by have := A3.out.size; have := hh.lt (.inl rfl); omega
  have A8 := Lib.hid hh
  have A9 := Lib.hid hrl
  clear hh hrv5 r0 r1 r3 hrl
  have A10 := Lib.hid hw6
  clear hw6
  have hk6 : ∀ k : Nat, (w5.drewN nq).heap[k]? = w5.heap[k]? := fun _ => rfl
  have hz6 : (w5.drewN nq).heap.size = w5.heap.size := rfl
  generalize w5.drewN nq = w6 at *
  have Z6 := Lib.hid hz6
  clear hz6
  go_wp2_with (at_builtin; go_loud (refine wpList_append_lies _ rfl _ _ 52 rfl B 3 i0 (.int .i64 0) 1 8 Tryd.underlying52 hi1 hq0 hq1 hq2 rfl (by decide) (.slice ra H.rem.length rc) H.rem.length (H.rem.map (Value.int .i64)) rfl (hrv6.alloc _) ⟨w6.heap.size, 0, none⟩ 1 1 [.int .i64 (a + 1 + i)] rfl rfl ?c1 ?c2 (by decide) ?c3 ?c4 ?c5 (w6.heap.size + 1) ?c6 ?grow))
  case c1 => exact World.news_of_block (cs := #[.int .i64 (a + 1 + i)]) (t := 3) (fr := (0, 0)) (heap_alloc_last w6 _)
  case c2 => intro u hu; simp at hu; subst hu; rfl
  case c3 => exact b3
  case c4 => exact b4
  case c5 =>
    have h1 := A8.out.lt (.inl rfl)
    have h2 := A8.out.lo.1
    have h3 := A3.out.size
    have h4 := Z6.out
    simp
    omega
  case c6 => simp
  case grow =>
    intro g7 c7 w7 hown hgrow hat hlt
    have e1 : H.rem.map (Value.int .i64) ++ [.int .i64 (a + 1 + i)] = (H.rem ++ [a + 1 + i]).map (Value.int .i64) := by simp
    rw [e1] at hown
    have hb6 : hb < w6.heap.size := by have := Z6.out; omega
    have hrb : (Value.slice ra H.rem.length rc).ownBlock ≠ some hb := A8.out.rh
    have hk7 : ∀ k, k < w6.heap.size → (Value.slice ra H.rem.length rc).ownBlock ≠ some k → w7.heap[k]? = w6.heap[k]? := fun k hk hn => (hgrow.block k (by simp; omega) (fun e => hn e.symm)).trans (Below.heap_alloc w6 _ k hk)
    have hT7 : Turned (fun k => (Value.slice ra H.rem.length rc).ownBlock = some k) w6 w7 := ((Turned.refl _ w6).alloc _).grown hgrow (fun k hk => .inl hk)
    have s5 : w7.cell? ⟨hb, 5, none⟩ = some (.slice ra H.rem.length rc) := (World.cell?_of_block (a := ⟨hb, 5, none⟩) (hk7 hb hb6 hrb)).trans r5
    have sf : w7.frozen? ⟨hb, 5, none⟩ = false := (World.frozen?_of_block (a := ⟨hb, 5, none⟩) (hk7 hb hb6 hrb)).trans rf
    have B1 := Lib.hid hown
    have B3 := Lib.hid hk7
    have B4 := Lib.hid hrb
    have B5 := Lib.hid hat
    have B6 := Lib.hid hT7
    clear hown hgrow hk7 hrb r5 rf hrv6 e1 b3 b4 hat hT7
    go_wp2
    go_ret
    have hh := A8.out
    have hS : H.setO m 4 vn vs = { H with old := H.old.modify m fun d => { d with vk := 4, vn := vn, vs := vs }, rem := H.rem ++ [a + 1 + i] } := by
      unfold HS.setO
      rw [if_pos ⟨rfl, hvo⟩]
      have e : (H.room : Int) + m = a + 1 + i := by have := A7.out; omega
      rw [e]
    have z3 := A3.out.size
    have z7 := B6.out.size
    have hz6 := Z6.out
    have hown7 : ∀ k, Owns hb nb mb (.slice (some ⟨g, 0, none⟩) H.old.length oc) (.slice ra H.rem.length rc) k → k < w6.heap.size := fun k hk => by have := hh.lt hk; omega
    have hgne : ∀ k, Owns hb nb mb (.slice (some ⟨g, 0, none⟩) H.old.length oc) (.slice ra H.rem.length rc) k → (Value.slice ra H.rem.length rc).ownBlock ≠ some k → k ≠ g7 := fun k hk hn e => by
      rcases B5.out with h1 | h1
      · exact hn (by rw [h1, e])
      · have := hown7 k hk
        omega
    have keep : ∀ k, Owns hb nb mb (.slice (some ⟨g, 0, none⟩) H.old.length oc) (.slice ra H.rem.length rc) k → (Value.slice ra H.rem.length rc).ownBlock ≠ some k → k ≠ hb → k ≠ g → (w7.setCell ⟨hb, 5, none⟩ (.slice (some ⟨g7, 0, none⟩) (H.rem.length + 1) c7)).heap[k]? = w3.heap[k]? := fun k hk hn hnb hng => (blk_ne hnb).trans ((B3.out k (hown7 k hk) hn).trans ((hk6 k).trans (A5.out k hng)))
    have e7 : (w7.setCell ⟨hb, 5, none⟩ (.slice (some ⟨g7, 0, none⟩) (H.rem.length + 1) c7)).heap[hb]? = some (.cells (hblock nb mb (.slice (some ⟨g, 0, none⟩) H.old.length oc) (.slice (some ⟨g7, 0, none⟩) (H.rem.length + 1) c7) H) 98 (0, 0)) := by
      rw [blk_set ((B3.out hb hb6 B4.out).trans ((hk6 hb).trans ((A5.out hb hhg).trans hh.blk))) _]
      rfl
    have hT : Turned (fun k => (Value.slice (some ⟨g, 0, none⟩) H.old.length oc).ownBlock = some k ∨ k = hb ∨ (Value.slice ra H.rem.length rc).ownBlock = some k) w (w7.setCell ⟨hb, 5, none⟩ (.slice (some ⟨g7, 0, none⟩) (H.rem.length + 1) c7)) :=
      Turned.setCell (((A2.out.trans A3.out).trans (A10.out.mono (fun _ h => h.elim))).trans (B6.out.mono (fun k hk => .inr (.inr hk)))) (p := ⟨hb, 5, none⟩) (.inl (.inr (.inl rfl))) _
    have gro : (Value.slice ra H.rem.length rc).ownBlock ≠ some g := fun e => by
      rcases hh.ro with h1 | h1
      · cases h1
      · exact h1 (by rw [e]; rfl)
    have hwsz : w.heap.size ≤ w6.heap.size := by have := A2.out.size; omega
    refine ⟨rfl, .slice (some ⟨g7, 0, none⟩) (H.rem.length + 1) c7, ?_, hT, fun k hk => ?_⟩
    · rw [A7.out, hS]
      have en : (H.rem ++ [a + 1 + i]).length = H.rem.length + 1 := by simp
      exact {
        blk := e7
        nur := (keep nb (.inr (.inl rfl)) hh.rn (Ne.symm hh.hn) hng).trans hh.nur
        len := hh.len
        old := by
          have h1 := A4.out
          rw [List.length_modify]
          exact ownsRow_same h1 (fun k hk => by
            have hkg : g = k := by injection hk
            subst hkg
            exact (blk_ne (Ne.symm hhg)).trans ((B3.out g (hown7 g (.inr (.inr (.inr (.inl rfl))))) gro).trans (hk6 g)))
        rem := by
          rw [en]
          refine ownsRow_same B1.out (fun k hk => blk_ne ?_)
          have hkg : g7 = k := by injection hk
          subst hkg
          exact Ne.symm (hgne hb (.inl rfl) B4.out)
        map := HeapF.ownsMap_same hh.map (keep mb (.inr (.inr (.inl rfl))) hh.rm (Ne.symm hh.hm) hmg)
        hn := hh.hn
        oh := hh.oh
        on := hh.on
        rh := fun e => hgne hb (.inl rfl) B4.out (by injection e with e; exact e.symm)
        rn := fun e => hgne nb (.inr (.inl rfl)) hh.rn (by injection e with e; exact e.symm)
        ro := .inr (fun e => hgne g (.inr (.inr (.inr (.inl rfl)))) gro (by injection e))
        lo := hh.lo
        tr := hh.tr
        rr := hh.rr
        mm := hh.mm
        om := by rw [List.length_modify]; exact hh.om }
    · have hkg : g7 = k := by injection hk
      subst hkg
      rcases B5.out with h1 | h1
      · exact .inl h1
      · right
        omega

end Go.Proofs.YthbkklnahhdgcaaDoor.PlS
