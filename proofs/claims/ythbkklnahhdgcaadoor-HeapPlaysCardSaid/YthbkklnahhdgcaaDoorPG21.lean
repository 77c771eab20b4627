/-
  HeapPlays' sets, whole.
-/
import Derived.Test.YthbkklnahhdgcaaDoorPG00
import Derived.Test.YthbkklnahhdgcaaDoorPG20
set_option maxRecDepth 100000
set_option maxHeartbeats 4000000
namespace Go.Proofs.YthbkklnahhdgcaaDoor.PlWb
open Go Go.Proofs Go.RowKit Go.Maps Go.Proofs.YthbkklnahhdgcaaDoor.Lib HeapR HeapB HeapC HeapD HeapG HeapH ErrC ChA ChT ChCa ChCc ChE ChH ChI ChL ChN ChO ChP ChR ChW ChZ PlC PlH PlS PlT PlZ PlU PlM PlN PlQ PlV PlO PlX PlY PlYa PlW PlWa

variable {w w' : World} {O : Nat → Nat} {B : Nat} {V : Zv} {H H' : HS} {T : List Th} {Z : Zn} {nu ol : List Ob} {loc : Nat → Ob}
theorem sets_ok (h : ZR w O B V H T Z) (hz : ZI H nu ol T Z loc) (what a b c bits : Int) (hT0 : 0 < T.length) (hTl : T.length ≤ 1000) (hrl : H.rem.length ≤ big) :
    Calls Tryd.prog 72 #[.pointer (some ⟨V.zb, 0, none⟩), stepV what a b c bits] w fun e w' => e = .returned (.bool true) ∧ SetDone w B (V.zb, V.hb) H T Z w' := by
  obtain ⟨zb, hb, nb, mb, ov, rv, tv, wv, ev, kv⟩ := V
  obtain ⟨gT, cT, hv1⟩ := row_slice h.things hT0
  obtain ⟨gW, cW, hv2⟩ := row_slice h.wher hT0
  obtain ⟨gK, cK, hv4⟩ := row_slice h.known hT0
  simp only at hv1 hv2 hv4
  subst hv1 hv2 hv4
  have hb1 : Below w.heap.size w (w.alloc (stepCells what a b c bits)) := (Below.refl _ w).alloc (Nat.le_refl _) _
  have hZ1 := (h.below hb1)
  have hlast := heap_alloc_last w (stepCells what a b c bits)
  have q1 : (w.alloc (stepCells what a b c bits)).cell? ⟨w.heap.size, 1, none⟩ = some (.int .i64 a) := cell_of_block hlast rfl
  have q2 : (w.alloc (stepCells what a b c bits)).cell? ⟨w.heap.size, 2, none⟩ = some (.int .i64 b) := cell_of_block hlast rfl
  have q3 : (w.alloc (stepCells what a b c bits)).cell? ⟨w.heap.size, 3, none⟩ = some (.int .i64 c) := cell_of_block hlast rfl
  have z1 : (w.alloc (stepCells what a b c bits)).cell? ⟨zb, 1, none⟩ = some (.slice (some ⟨gT, 0, none⟩) T.length cT) := hZ1.cz rfl
  have z4 : (w.alloc (stepCells what a b c bits)).cell? ⟨zb, 4, none⟩ = some (.slice (some ⟨gK, 0, none⟩) T.length cK) := hZ1.cz rfl
  have hwr : IntKind.i64.wrap (2 * (T.length : Int)) = ((2 * T.length : Nat) : Int) := by
    rw [Int.natCast_mul]
    exact IntWalk.i64_in _ (by omega)
  obtain ⟨k, hkl, hpk⟩ := pickV_nat a T.length hT0 (by unfold big; omega)
  obtain ⟨j, hjl, hpj⟩ := pickV_nat c (2 * T.length) (by omega) (by unfold big; omega)
  have hP1 := pick_same a T.length (w.alloc (stepCells what a b c bits)).drew hT0 (by unfold big; omega)
  have hP2 := pick_same c (2 * T.length) (w.alloc (stepCells what a b c bits)).drew (by omega) (by unfold big; omega)
  rw [hpk] at hP1
  rw [hpj] at hP2
  obtain ⟨t, hk⟩ : ∃ t, T[k]? = some t := ⟨_, List.getElem?_eq_getElem hkl⟩
  have zk : (w.alloc (stepCells what a b c bits)).cell? ⟨gK, k, none⟩ = some (.bool t.known) := by
    have h2 := hZ1.known
    simp only at h2
    rw [h2.cellAt k (by omega), List.getElem?_map, hk]
    rfl
  have hk0 : (0 : Int) ≤ (k : Int) := by omega
  have hk1 : (k : Int) < (T.length : Int) := by omega
  have hsl : w.heap.size < (w.alloc (stepCells what a b c bits)).heap.size := by simp
  have A0 := Lib.hid h
  have A1 := Lib.hid hz
  have A2 := Lib.hid hb1
  have A3 := Lib.hid hpk
  have A4 := Lib.hid hpj
  unfold stepV
  unfold stepCells at q1 q2 q3 z1 z4 zk hP1 hP2 A2 hsl
  clear h hz hlast hb1 hZ1 hpk hpj
  go_enter Tryd.func72, Tryd.ntmps72
  refine wp_seq_k (fun K0 hK0 => ?_)
  have E0 := Lib.hid hK0
  clear hK0
  go_wp2_with fail
  refine E0.out _ _ ?_
  clear E0 K0
  refine wp_seq_k (fun K1 hK1 => ?_)
  have E1 := Lib.hid hK1
  clear hK1
  generalize w.alloc (.cells #[.int .i64 what, .int .i64 a, .int .i64 b, .int .i64 c, .int .u64 bits] 84 (0, 0)) = w1 at *
  refine RegU.begin (S := fun wz => wz.cell? ⟨w.heap.size, 1, none⟩ = some (.int .i64 a) ∧ wz.cell? ⟨w.heap.size, 3, none⟩ = some (.int .i64 c) ∧ wz.cell? ⟨zb, 1, none⟩ = some (.slice (some ⟨gT, 0, none⟩) T.length cT)) (N := [2, 3, 4, 5, 6, 7, 8, 9, 10, 11, 12, 13, 14, 15]) (by kernel_rfl) ?_ (fun hHeld => ?_)
  · (try dsimp only); first | assumption | go_keep
  refine RegU.tk [1, 7, 16, 17, 18] 0 ?_
  refine RegU.tk [7, 16, 17, 18] 1 ?_
  refine RegU.tk [3, 4, 5, 6, 7, 16, 17, 18] 2 ?_
  refine RegU.tk [4, 5, 6, 7, 16, 17, 18] 3 ?_
  refine RegU.tk [5, 6, 7, 16, 17, 18] 4 ?_
  refine RegU.tk [6, 7, 16, 17, 18] 5 ?_
  refine RegU.tk [7, 16, 17, 18] 6 ?_
  refine RegU.tk [9, 16, 17, 18] 8 ?_
  refine RegU.tk [16, 17, 18] 9 ?_
  refine RegU.tk [11, 12, 13, 14, 15, 16, 17, 18] 10 ?_
  refine RegU.tk [12, 13, 14, 15, 16, 17, 18] 11 ?_
  refine RegU.tk [13, 14, 15, 16, 17, 18] 12 ?_
  refine RegU.tk [14, 15, 16, 17, 18] 13 ?_
  refine RegU.tk [15, 16, 17, 18] 14 ?_
  refine RegU.tk [16, 17, 18] 15 ?_
  refine RegU.one (i := 7) (by kernel_rfl) rfl (fun K hK => ?_)
  go_simp
  refine hP1.mono ?_
  rintro e w2 ⟨rfl, rfl⟩
  refine hK.out _ _ ⟨q1, q3, z1⟩ (fun hHeld => ?_)
  clear hK K
  try simp only [Act.put, List.setIfInBounds_toArray, List.set_cons_zero, List.set_cons_succ]
  refine RegU.one (i := 16) (by kernel_rfl) rfl (fun K hK => ?_)
  go_simp
  refine hP2.mono ?_
  rintro e w2 ⟨rfl, rfl⟩
  refine hK.out _ _ ⟨q1, q3, z1⟩ (fun hHeld => ?_)
  clear hK K
  try simp only [Act.put, List.setIfInBounds_toArray, List.set_cons_zero, List.set_cons_succ]
  refine RegU.rest [17, 18] [_, _] (by kernel_rfl) rfl ?_
  have y2 : w1.drew.cell? ⟨w.heap.size, 2, none⟩ = some (.int .i64 b) := q2
  have y3 : w1.drew.cell? ⟨w.heap.size, 3, none⟩ = some (.int .i64 c) := q3
  have y4 : w1.drew.cell? ⟨zb, 4, none⟩ = some (.slice (some ⟨gK, 0, none⟩) T.length cK) := z4
  have y5 : w1.drew.cell? ⟨gK, k, none⟩ = some (.bool t.known) := zk
  have B2 := Lib.hid (A2.out.drew)
  have hsl2 : w.heap.size < w1.drew.heap.size := hsl
  clear q1 q2 q3 z1 z4 zk hP1 hP2 hHeld hwr hsl
  go_wp2_with fail
  refine E1.out _ _ ?_
  clear E1 K1
  generalize w1.drew = w2 at *
  cases hkn : t.known with
  | false =>
    rw [hkn] at y5
    go_wp2_with fail
    exact bodyPost_ret (results_tmp rfl _ _ _) rfl ⟨rfl, O, _, H, nu, ol, T, loc, A0.out.below B2.out, A1.out, rfl, rfl, Nat.le_succ _, Turned.of_below _ B2.out⟩
  | true =>
    rw [hkn] at y5
    refine wp_seq_k (fun K1 hK1 => ?_)
    have E1 := Lib.hid hK1
    clear hK1
    go_wp2_with fail
    refine E1.out _ _ ?_
    clear E1 K1
    refine wp_seq_k (fun K2 hK2 => ?_)
    have E2 := Lib.hid hK2
    clear hK2
    go_wp2_with fail
    refine E2.out _ _ ?_
    clear E2 K2
    refine wp_seq_k (fun K3 hK3 => ?_)
    have hbv : Below w.heap.size w (w2.alloc (.cells #[.int .i64 2, .int .i64 c, .string ByteArray.empty] 28 (0, 0))) := B2.out.alloc (Nat.le_of_lt hsl2) _
    have hvs := heap_alloc_last w2 (.cells #[.int .i64 2, .int .i64 c, .string ByteArray.empty] 28 (0, 0))
    have x2 : (w2.alloc (.cells #[.int .i64 2, .int .i64 c, .string ByteArray.empty] 28 (0, 0))).cell? ⟨w.heap.size, 2, none⟩ = some (.int .i64 b) := alloc_cell y2 _
    refine sets_v zb hb nb mb gT cT gW cW gK cK ov rv ev A0.out A1.out hbv w.heap.size k w2.heap.size j b c x2 hvs (Nat.le_of_lt hsl2) (Nat.ne_of_lt hsl2) hTl ?_
    intro _ _ _ _ _ _ _ _ _ _ _ _ _ _ _ _ _ _ _ _ _ _ _ _ _ v x w4 hb4 s2 v0 v1 v2 hfm hvr
    refine hK3 _ _ ?_
    refine sets_tail zb hb nb mb gT cT gW cW ov rv ev _ (A0.out.below hb4) A1.out w.heap.size k w2.heap.size b x v hk hkn s2 v0 v1 v2 (fun e => absurd (A0.out.hr.lt e) (Nat.lt_irrefl _)) hTl hfm (fun e => absurd (A0.out.hr.lt e) (Nat.not_lt.mpr (Nat.le_of_lt hsl2))) hvr hrl ?_
    intro a' w' h4 hd hp
    exact bodyPost_ret (results_tmp rfl _ _ _) hd ⟨by rw [h4], SetDone.pre hp (Turned.of_below _ hb4)⟩
end Go.Proofs.YthbkklnahhdgcaaDoor.PlWb

namespace Go.Proofs.YthbkklnahhdgcaaDoor.PlP
open Go Go.Proofs Go.RowKit Go.Maps Go.Proofs.YthbkklnahhdgcaaDoor.Lib HeapR HeapG ErrC ChA ChT ChCa ChCc ChE ChH ChJ ChL ChN ChO ChQ ChR ChU ChX ChYf ChZ PlT PlZ PlX PlYa PlL PlLd PlG PlGa PlF PlFa PlGb PlV PlO PlEa PlK

variable {w w' : World} {O : Nat → Nat} {B : Nat} {V : Zv} {H H' : HS} {nu ol : List Ob} {T T' : List Th} {Z Z' : Zn} {loc : Nat → Ob}
theorem held_nil (n : Nat) : heldRow n [] = List.replicate n (.bool false) := by
  unfold heldRow
  apply List.ext_getElem?
  intro j
  by_cases h : j < n
  · simp [h]
  · simp [h]
/-- A slice, and the block that it lies in. -/
theorem slot {e size n : Nat} {v : Value} {xs : List Value} (h : w.ownsRow B e size v n xs) (hp : 0 < w.heap.size) : ∃ (g : Nat) (o : Option Addr) (c : Nat), v = .slice o n c ∧ (0 < n → o = some ⟨g, 0, none⟩) ∧ g < w.heap.size := by
  rcases h.2 with ⟨h1, h2⟩ | ⟨g, cap, cur, h1, h3, h4, _⟩
  · exact ⟨0, none, 0, by rw [h1, h2], fun h => by omega, hp⟩
  · exact ⟨g, _, cap, h1, fun _ => rfl, lt_of_block h4⟩
/-- One of the zoo's numbers. -/
theorem zr_num (h : ZR w O B V H T Z) (j : Nat) (x : Int) (hj : (zblock V.hb V.tv V.wv V.ev V.kv Z).setIfInBounds j (.int .i64 x) = zblock V.hb V.tv V.wv V.ev V.kv Z') : ZR (w.setCell ⟨V.zb, j, none⟩ (.int .i64 x)) O B V H T Z' := by
  have keep : ∀ k, O k ≠ 1 → (w.setCell ⟨V.zb, j, none⟩ (.int .i64 x)).heap[k]? = w.heap[k]? := fun k ho => blk_ne (w := w) (p := ⟨V.zb, j, none⟩) (fun e => ho (e ▸ h.o1))
  exact { h with
    blk := by
      rw [← hj]
      exact blk_set (w := w) h.blk _
    hr := h.hr.same fun k hk => keep k (by have := h.o0 k hk; omega)
    things := ownsRow_same h.things fun k hk => keep k (by have := h.o2 k hk; omega)
    wher := ownsRow_same h.wher fun k hk => keep k (by have := h.o3 k hk; omega)
    here := ownsRow_same h.here fun k hk => keep k (by have := h.o4 k hk; omega)
    known := ownsRow_same h.known fun k hk => keep k (by have := h.o5 k hk; omega)
    thing := fun t ht => by
      obtain ⟨i, hi⟩ := List.getElem?_of_mem ht
      obtain ⟨e1, _, e2⟩ := h.ot i t hi
      exact ⟨(keep _ (by omega)).trans (h.thing t ht).1, ownsRow_same (h.thing t ht).2 fun k hk => keep k (by have := e2 k hk; omega)⟩
    et := (World.cell?_of_block (a := ⟨1, 0, none⟩) (blk_ne (w := w) (p := ⟨V.zb, j, none⟩) (fun e => by
      have e2 : 1 = V.zb := e
      have h3 := h.low
      rw [← e2] at h3
      exact absurd h3 (Nat.not_le.mpr h.el)))).trans h.et }
/-- A thing's fields. -/
theorem zr_thing (h : ZR w O B V H T Z) {g : Nat} {oT : Option Addr} {cT : Nat} (hv : V.tv = .slice oT T.length cT) (ho : 0 < T.length → oT = some ⟨g, 0, none⟩) {i : Nat} {t : Th} (ht : T[i]? = some t) :
    oT = some ⟨g, 0, none⟩ ∧ w.cell? ⟨g, i, none⟩ = some (.pointer (some ⟨t.b, 0, none⟩)) ∧ (∀ (j : Nat) (v : Value), t.block[j]? = some v → w.cell? ⟨t.b, j, none⟩ = some v) ∧ (∀ j, w.frozen? ⟨t.b, j, none⟩ = false) ∧ w.ownsRow B 3 1 t.iv t.is.length (t.is.map (Value.int .i64)) := by
  have hi := (List.getElem?_eq_some_iff.1 ht).1
  have e := ho (by omega)
  have h2 := h.things
  have h3 := h.thing t (List.mem_of_getElem? ht)
  rw [hv, e] at h2
  refine ⟨e, ?_, fun j v hj => cell_of_block h3.1 hj, fun j => frozen_of_block h3.1, h3.2⟩
  rw [h2.cellAt i (by omega), List.getElem?_map, ht]
  rfl
theorem zr_here (h : ZR w O B V H T Z) {g : Nat} {oE : Option Addr} {cE : Nat} (hv : V.ev = .slice oE T.length cE) (ho : 0 < T.length → oE = some ⟨g, 0, none⟩) {i : Nat} {t : Th} (ht : T[i]? = some t) : oE = some ⟨g, 0, none⟩ ∧ w.cell? ⟨g, i, none⟩ = some (.bool t.here) := by
  have hi := (List.getElem?_eq_some_iff.1 ht).1
  have e := ho (by omega)
  have h2 := h.here
  rw [hv, e] at h2
  refine ⟨e, ?_⟩
  rw [h2.cellAt i (by omega), List.getElem?_map, ht]
  rfl
theorem zr_known (h : ZR w O B V H T Z) {g : Nat} {oE : Option Addr} {cE : Nat} (hv : V.kv = .slice oE T.length cE) (ho : 0 < T.length → oE = some ⟨g, 0, none⟩) {i : Nat} {t : Th} (ht : T[i]? = some t) : oE = some ⟨g, 0, none⟩ ∧ w.cell? ⟨g, i, none⟩ = some (.bool t.known) := by
  have hi := (List.getElem?_eq_some_iff.1 ht).1
  have e := ho (by omega)
  have h2 := h.known
  rw [hv, e] at h2
  refine ⟨e, ?_⟩
  rw [h2.cellAt i (by omega), List.getElem?_map, ht]
  rfl
/-- What 'cells' is told. -/
theorem zs_of (h : ZR w O B V H T Z) {zx : Nat} (x : w.cell? ⟨zx, 0, none⟩ = some (.pointer (some ⟨V.zb, 0, none⟩))) {gT gE : Nat} {oT oE : Option Addr} {cT cE : Nat} (hv : V.tv = .slice oT T.length cT) (ho : 0 < T.length → oT = some ⟨gT, 0, none⟩) (hv3 : V.ev = .slice oE T.length cE) (ho3 : 0 < T.length → oE = some ⟨gE, 0, none⟩) :
    Zs w zx V.zb oT oE cT cE T := {
  x := x
  z1 := (h.cz rfl).trans (congrArg some hv)
  z3 := (h.cz rfl).trans (congrArg some hv3)
  th := fun i t ht => by
    obtain ⟨e1, e2, e3, _, e5⟩ := zr_thing h hv ho ht
    obtain ⟨f1, f2⟩ := zr_here h hv3 ho3 ht
    obtain ⟨oI, cI, e6⟩ := row_form e5
    exact ⟨gT, gE, oI, cI, e1, f1, e2, e3 4 _ (congrArg some e6), f2⟩ }
/-- What Lead is told. -/
theorem lead_of (h : ZR w O B V H T Z) {gT : Nat} {oT : Option Addr} {cT : Nat} (hv : V.tv = .slice oT T.length cT) (ho : 0 < T.length → oT = some ⟨gT, 0, none⟩) : ∀ (a : Nat) (t : Th), T[a]? = some t → ∃ g, oT = some ⟨g, 0, none⟩ ∧ w.cell? ⟨g, a, none⟩ = some (.pointer (some ⟨t.b, 0, none⟩)) ∧ w.cell? ⟨t.b, 4, none⟩ = some t.iv ∧ w.ownsRow 0 3 1 t.iv t.is.length (t.is.map (Value.int .i64)) := fun a t ht => by
  obtain ⟨e1, e2, e3, _, e5⟩ := zr_thing h hv ho ht
  exact ⟨gT, e1, e2, e3 4 _ rfl, PlC.row_low e5 (Nat.zero_le _)⟩

/-- Behind collects. -/
def ColDone (w : World) (B : Nat) (zb : Nat × Nat) (H : HS) (T : List Th) (w' : World) : Prop :=
  ∃ (O' : Nat → Nat) (V' : Zv) (H' : HS) (nu' ol' : List Ob) (T' : List Th) (Z' : Zn) (loc' : Nat → Ob), ZR w' O' B V' H' T' Z' ∧ ZI H' nu' ol' T' Z' loc' ∧ (V'.zb, V'.hb) = zb ∧ T'.length = T.length ∧ H'.rem.length ≤ H.rem.length ∧ H'.minors ≤ H.minors + 1 ∧ H'.majors ≤ H.majors + 1 ∧ H'.room = H.room ∧ Turned (fun k => B ≤ k) w w'
theorem ColDone.pre {w1 : World} {zb : Nat × Nat} (h : ColDone w1 B zb H T w') (hT : Turned (fun k => B ≤ k) w w1) : ColDone w B zb H T w' := by
  obtain ⟨O', V', H', nu', ol', T', Z', loc', h1, h2, h3, h4, h5, h6, h7, h8, h9⟩ := h
  exact ⟨O', V', H', nu', ol', T', Z', loc', h1, h2, h3, h4, h5, h6, h7, h8, hT.trans h9⟩
end Go.Proofs.YthbkklnahhdgcaaDoor.PlP

namespace Go.Proofs.YthbkklnahhdgcaaDoor.PlR
open Go Go.Proofs Go.RowKit Go.Maps Go.Proofs.YthbkklnahhdgcaaDoor.Lib HeapR HeapB HeapC HeapD HeapG HeapH ErrC ChA ChT ChCa ChCc ChE ChH ChI ChJ ChK ChL ChN ChO ChP ChQ ChR ChU ChV ChW ChX ChYf ChZ PlA PlT PlZ PlX PlYa PlU PlQ PlL PlLa PlLb PlLc PlLd PlE PlEa PlEb PlF PlFa PlFb PlFc PlFd PlG PlGa PlGb PlV PlO PlK PlP

theorem col_for {Q : Exit → Act → World → Prop} {u0 u1 u3 u4 u5 u6 u8 Ja Jc Jd Je Jf Jg Jh Ji Jj Jk Jl Jm Jn Jo Jp Jq Jr Js Jt Ju Jv Jw Jx Jy Jz Qa Qb Qc Qd Qe Qf Qg Qh Qi Qj Qk Ql Qm Qn Qo Qp Qq Qr Qs Qt Qu Qv Qw Qx Qy Qz Xe Xg Xh Xi Xj Xk Xn Xo Xp Xq Xt Xu Xv Xx Xy Xz Yg Yh Yi Yj Yk Yl Ym Yn Yo Yp Yq Yr Ys Yt Yu Yv Yw Yx Yy Yz Ua Ub Uc Ud Ue Uf Ug Uh Ui Uj Uk Ul Um Un Uo Up Uq Ur Us Ut Uu Uv Uw Ux Uy Uz Wc Wd We Wf Wg Wh Wi Wj Wk Wl Wm Wn Wo Wp Wq Wt Wu Ww Wx Wy Wz Ka Kb Kc Kd Ke Kf Kg Kh Kj Kl Km Kn Ko Kp Kq Kr Kt Ku Kv Kw Kx Ky Kz Rg Rh Ri Rj Rk Rl Rm Rp Rq Rt Ru Rx Ry Rz Gc Ge Gf Gg Gh Gi Gj Gm Gn Gp Gq Gt Gu Gv Gx Gy Gz Fe Ff Fg Fh Fi Fj Fk Fm Fo Fp Fq Fs Ft Fu Fv Fw Fx Fy Fz Ec Ee Ef Eg Eh Ei Ej Ek Em En Eo Ep Eu Ev Ex Ey Ez Da Db Dc Dd Dg Dh Di Dj Dk Dl Dm Dn Do Dp Dq Dt Du Dv Dw Dx Dy Dz Pa Pb Pc Pe Pf Pg Ph Pi Pj Pk Pm Pn Po Pq Ps Pt Pu Pv Pw Px Py Pz Na : Value} (w1 : World) (O : Nat → Nat) (B n0 : Nat) (V : Zv) (H' : HS) (T T1 : List Th) (Z : Zn) (loc : Nat → Ob) (s : List Int) (L : List Nat) (zx lv mb gT cT gE cE gW cW gK cK gH cH : Nat) (ol' : List Ob)
    (hx : LX w1 B n0 V H' T T1 Z loc s L zx lv mb gT cT gE cE gW cW gK cK gH ol') (hi : HI H' [] ol') (hZ : ZR w1 O B V H' T1 Z) (hl1 : T1.length = T.length)
    (hQ : ∀ (z15 z16 z17 zDm zDn zDo zDp zDq zDr zDs zDt zDu zDv zDw zDx zDy zDz zDA zDB zDC zDD zDE zDF zDG zDH zDI zDJ zDK zDL zDM zDN zDO zDP zDQ zDR zDS zDT zDU zDV zDW zDX zDY zDZ zEa zEb zEc zEd zEe zEf zEg zEh zEi zEj zEk zEl zEm zEn zEo zEp zEq zEr zEs zEt zEu zEv zEw zEx zEy zEz zEA zEB zEC zED zEE zEF zEG zEH zEI zEJ zEK zEL zEM zEN zEO zEP zEQ zER zES zET zEU zEV zEW zEX zEY zEZ zFa zFb zFc zFd zFe zFf zFg zFh zFi zFj zFk zFl : Value) (w5 : World), RZ w1 B n0 V H' T T1 Z loc s T.length w5 → Q .normal ⟨#[u0, u1, (.pointer (some ⟨zx, 0, none⟩)), u3, u4, u5, u6, (.slice (some ⟨gH, 0, none⟩) T.length cH), u8, (.func (Fn.func 91) #[] #[.pointer (some ⟨zx, 0, none⟩)]), Ja, (.pointer (some ⟨lv, 0, none⟩)), Jc, Jd, (.int .i64 (T.length : Int)), z15, z16, z17, Ji, Jj, Jk, Jl, Jm, Jn, Jo, Jp, Jq, Jr, Js, Jt, Ju, Jv, Jw, Jx, Jy, Jz, Qa, Qb, Qc, Qd, Qe, Qf, Qg, Qh, Qi, Qj, Qk, Ql, Qm, Qn, Qo, Qp, Qq, Qr, Qs, Qt, Qu, Qv, Qw, Qx, Qy, Qz, Xe, Xg, Xh, Xi, Xj, Xk, Xn, Xo, Xp, Xq, Xt, Xu, Xv, Xx, Xy, Xz, Yg, Yh, Yi, Yj, Yk, Yl, Ym, Yn, Yo, Yp, Yq, Yr, Ys, Yt, Yu, Yv, Yw, Yx, Yy, Yz, Ua, Ub, Uc, Ud, Ue, Uf, Ug, Uh, Ui, Uj, Uk, Ul, Um, Un, Uo, Up, Uq, Ur, Us, Ut, Uu, Uv, Uw, Ux, Uy, Uz, Wc, Wd, We, Wf, Wg, Wh, Wi, Wj, Wk, Wl, Wm, Wn, Wo, Wp, Wq, Wt, Wu, Ww, Wx, Wy, Wz, Ka, Kb, Kc, Kd, Ke, Kf, Kg, Kh, Kj, Kl, Km, Kn, Ko, Kp, Kq, Kr, Kt, Ku, Kv, Kw, Kx, Ky, Kz, zDm, zDn, zDo, zDp, zDq, zDr, zDs, zDt, zDu, zDv, zDw, zDx, zDy, zDz, zDA, zDB, zDC, zDD, zDE, zDF, zDG, zDH, zDI, zDJ, zDK, zDL, zDM, zDN, zDO, zDP, zDQ, zDR, zDS, zDT, zDU, zDV, zDW, zDX, zDY, zDZ, zEa, zEb, zEc, zEd, zEe, zEf, zEg, zEh, zEi, zEj, zEk, zEl, zEm, zEn, zEo, zEp, zEq, zEr, zEs, zEt, zEu, zEv, zEw, zEx, zEy, zEz, zEA, zEB, zEC, zED, zEE, zEF, zEG, zEH, zEI, zEJ, zEK, zEL, zEM, zEN, zEO, zEP, zEQ, zER, zES, zET, zEU, zEV, zEW, zEX, zEY, zEZ, zFa, zFb, zFc, zFd, zFe, zFf, zFg, zFh, zFi, zFj, zFk, zFl, Pt, Pu, Pv, Pw, Px, Py, Pz, Na], []⟩ w5) :
    Code.wp Tryd.prog (Cut.piece Tryd.f73 (Cut.tail 30)) Q ⟨#[u0, u1, (.pointer (some ⟨zx, 0, none⟩)), u3, u4, u5, u6, (.slice (some ⟨gH, 0, none⟩) T.length cH), u8, (.func (Fn.func 91) #[] #[.pointer (some ⟨zx, 0, none⟩)]), Ja, (.pointer (some ⟨lv, 0, none⟩)), Jc, Jd, Je, Jf, Jg, Jh, Ji, Jj, Jk, Jl, Jm, Jn, Jo, Jp, Jq, Jr, Js, Jt, Ju, Jv, Jw, Jx, Jy, Jz, Qa, Qb, Qc, Qd, Qe, Qf, Qg, Qh, Qi, Qj, Qk, Ql, Qm, Qn, Qo, Qp, Qq, Qr, Qs, Qt, Qu, Qv, Qw, Qx, Qy, Qz, Xe, Xg, Xh, Xi, Xj, Xk, Xn, Xo, Xp, Xq, Xt, Xu, Xv, Xx, Xy, Xz, Yg, Yh, Yi, Yj, Yk, Yl, Ym, Yn, Yo, Yp, Yq, Yr, Ys, Yt, Yu, Yv, Yw, Yx, Yy, Yz, Ua, Ub, Uc, Ud, Ue, Uf, Ug, Uh, Ui, Uj, Uk, Ul, Um, Un, Uo, Up, Uq, Ur, Us, Ut, Uu, Uv, Uw, Ux, Uy, Uz, Wc, Wd, We, Wf, Wg, Wh, Wi, Wj, Wk, Wl, Wm, Wn, Wo, Wp, Wq, Wt, Wu, Ww, Wx, Wy, Wz, Ka, Kb, Kc, Kd, Ke, Kf, Kg, Kh, Kj, Kl, Km, Kn, Ko, Kp, Kq, Kr, Kt, Ku, Kv, Kw, Kx, Ky, Kz, Rg, Rh, Ri, Rj, Rk, Rl, Rm, Rp, Rq, Rt, Ru, Rx, Ry, Rz, Gc, Ge, Gf, Gg, Gh, Gi, Gj, Gm, Gn, Gp, Gq, Gt, Gu, Gv, Gx, Gy, Gz, Fe, Ff, Fg, Fh, Fi, Fj, Fk, Fm, Fo, Fp, Fq, Fs, Ft, Fu, Fv, Fw, Fx, Fy, Fz, Ec, Ee, Ef, Eg, Eh, Ei, Ej, Ek, Em, En, Eo, Ep, Eu, Ev, Ex, Ey, Ez, Da, Db, Dc, Dd, Dg, Dh, Di, Dj, Dk, Dl, Dm, Dn, Do, Dp, Dq, Dt, Du, Dv, Dw, Dx, Dy, Dz, Pa, Pb, Pc, Pe, Pf, Pg, Ph, Pi, Pj, Pk, Pm, Pn, Po, Pq, Ps, Pt, Pu, Pv, Pw, Px, Py, Pz, Na], []⟩ w1 := by
  conv => arg 2; whnf
  have A0 := Lib.hid hx
  have A1 := Lib.hid hi
  have A2 := Lib.hid hZ
  have A3 := Lib.hid hl1
  have A5 := Lib.hid hQ
  clear hx hi hZ hl1 hQ
  go_wp2_with fail
  refine last_loop w1 B n0 V H' T T1 Z loc s L zx lv mb gT cT gE cE gW cW gK cK gH cH ol' w1 A0.out A1.out ⟨O, T1, A2.out, A3.out, fun j hj => absurd hj (Nat.not_lt_zero _), fun _ _ => rfl, Turned.refl _ _⟩ ?_
  intro _ _ _ _ _ _ _ _ _ _ _ _ _ _ _ _ _ _ _ _ _ _ _ _ _ _ _ _ _ _ _ _ _ _ _ _ _ _ _ _ _ _ _ _ _ _ _ _ _ _ _ _ _ _ _ _ _ _ _ _ _ _ _ _ _ _ _ _ _ _ _ _ _ _ _ _ _ _ _ _ _ _ _ _ _ _ _ _ _ _ _ _ _ _ _ _ _ _ _ _ _ _ _ _ _ _ _ w5 hR
  exact A5.out _ _ _ _ _ _ _ _ _ _ _ _ _ _ _ _ _ _ _ _ _ _ _ _ _ _ _ _ _ _ _ _ _ _ _ _ _ _ _ _ _ _ _ _ _ _ _ _ _ _ _ _ _ _ _ _ _ _ _ _ _ _ _ _ _ _ _ _ _ _ _ _ _ _ _ _ _ _ _ _ _ _ _ _ _ _ _ _ _ _ _ _ _ _ _ _ _ _ _ _ _ _ _ _ _ _ _ w5 hR

theorem col_end {Q : Exit → Act → World → Prop} {u0 u1 u3 u4 u5 u6 u7 u8 Ja Jb Jc Jd Je Jf Jg Jh Ji Jj Jk Jl Jm Jn Jo Jp Jq Jr Js Jt Ju Jv Jw Jx Jy Jz Qa Qb Qc Qd Qe Qf Qg Qh Qi Qj Qk Ql Qm Qn Qo Qp Qq Qr Qs Qt Qu Qv Qw Qx Qy Qz Xe Xg Xh Xi Xj Xk Xn Xo Xp Xq Xt Xu Xv Xx Xy Xz Yg Yh Yi Yj Yk Yl Ym Yn Yo Yp Yq Yr Ys Yt Yu Yv Yw Yx Yy Yz Ua Ub Uc Ud Ue Uf Ug Uh Ui Uj Uk Ul Um Un Uo Up Uq Ur Us Ut Uu Uv Uw Ux Uy Uz Wc Wd We Wf Wg Wh Wi Wj Wk Wl Wm Wn Wo Wp Wq Wt Wu Ww Wx Wy Wz Ka Kb Kc Kd Ke Kf Kg Kh Kj Kl Km Kn Ko Kp Kq Kr Kt Ku Kv Kw Kx Ky Kz Rg Rh Ri Rj Rk Rl Rm Rp Rq Rt Ru Rx Ry Rz Gc Ge Gf Gg Gh Gi Gj Gm Gn Gp Gq Gt Gu Gv Gx Gy Gz Fe Ff Fg Fh Fi Fj Fk Fm Fo Fp Fq Fs Ft Fu Fv Fw Fx Fy Fz Ec Ee Ef Eg Eh Ei Ej Ek Em En Eo Ep Eu Ev Ex Ey Ez Da Db Dc Dd Dg Dh Di Dj Dk Dl Dm Dn Do Dp Dq Dt Du Dv Dw Dx Dy Dz Pa Pb Pc Pe Pf Pg Ph Pi Pj Pk Pm Pn Po Pq Ps Pt Pu Pv Pw Px Py Pz Na : Value} (w1 : World) (_O : Nat → Nat) (B n0 : Nat) (V : Zv) (H' : HS) (T T1 : List Th) (Z : Zn) (loc : Nat → Ob) (s : List Int) (L : List Nat) (zx lv mb gT cT gE cE gW cW gK cK gH _cH : Nat) (ol' : List Ob) (w5 : World)
    (hx : LX w1 B n0 V H' T T1 Z loc s L zx lv mb gT cT gE cE gW cW gK cK gH ol') (hR : RZ w1 B n0 V H' T T1 Z loc s T.length w5) (hil : ∀ t ∈ T, t.is.length ≤ 1000)
    (hQ : ∀ (a' : Act) (w' : World) (O' : Nat → Nat) (T' : List Th), a'.tmps.getD 4 undef = .bool true → a'.defers = [] → ZR w' O' B V H' T' { Z with top := 0, old := cellsOf T' (fun _ => true) T'.length } → T'.length = T.length → (∀ (j : Nat) (t : Th), T[j]? = some t → ∃ t', T'[j]? = some t' ∧ Aft loc s j t t') → Turned (fun k => B ≤ k) w1 w' → Q .ret a' w') :
    Code.wp Tryd.prog (Cut.piece Tryd.f73 (Cut.tail 41)) Q ⟨#[u0, u1, (.pointer (some ⟨zx, 0, none⟩)), u3, u4, u5, u6, u7, u8, (.func (Fn.func 91) #[] #[.pointer (some ⟨zx, 0, none⟩)]), Ja, Jb, Jc, Jd, Je, Jf, Jg, Jh, Ji, Jj, Jk, Jl, Jm, Jn, Jo, Jp, Jq, Jr, Js, Jt, Ju, Jv, Jw, Jx, Jy, Jz, Qa, Qb, Qc, Qd, Qe, Qf, Qg, Qh, Qi, Qj, Qk, Ql, Qm, Qn, Qo, Qp, Qq, Qr, Qs, Qt, Qu, Qv, Qw, Qx, Qy, Qz, Xe, Xg, Xh, Xi, Xj, Xk, Xn, Xo, Xp, Xq, Xt, Xu, Xv, Xx, Xy, Xz, Yg, Yh, Yi, Yj, Yk, Yl, Ym, Yn, Yo, Yp, Yq, Yr, Ys, Yt, Yu, Yv, Yw, Yx, Yy, Yz, Ua, Ub, Uc, Ud, Ue, Uf, Ug, Uh, Ui, Uj, Uk, Ul, Um, Un, Uo, Up, Uq, Ur, Us, Ut, Uu, Uv, Uw, Ux, Uy, Uz, Wc, Wd, We, Wf, Wg, Wh, Wi, Wj, Wk, Wl, Wm, Wn, Wo, Wp, Wq, Wt, Wu, Ww, Wx, Wy, Wz, Ka, Kb, Kc, Kd, Ke, Kf, Kg, Kh, Kj, Kl, Km, Kn, Ko, Kp, Kq, Kr, Kt, Ku, Kv, Kw, Kx, Ky, Kz, Rg, Rh, Ri, Rj, Rk, Rl, Rm, Rp, Rq, Rt, Ru, Rx, Ry, Rz, Gc, Ge, Gf, Gg, Gh, Gi, Gj, Gm, Gn, Gp, Gq, Gt, Gu, Gv, Gx, Gy, Gz, Fe, Ff, Fg, Fh, Fi, Fj, Fk, Fm, Fo, Fp, Fq, Fs, Ft, Fu, Fv, Fw, Fx, Fy, Fz, Ec, Ee, Ef, Eg, Eh, Ei, Ej, Ek, Em, En, Eo, Ep, Eu, Ev, Ex, Ey, Ez, Da, Db, Dc, Dd, Dg, Dh, Di, Dj, Dk, Dl, Dm, Dn, Do, Dp, Dq, Dt, Du, Dv, Dw, Dx, Dy, Dz, Pa, Pb, Pc, Pe, Pf, Pg, Ph, Pi, Pj, Pk, Pm, Pn, Po, Pq, Ps, Pt, Pu, Pv, Pw, Px, Py, Pz, Na], []⟩ w5 := by
  conv => arg 2; whnf
  have A0 := Lib.hid hx
  have A4 := Lib.hid hil
  have A5 := Lib.hid hQ
  clear hx hil hQ
  obtain ⟨O', T', hZ', hlen, hdone, _, hT⟩ := hR
  obtain ⟨oT, hv1, ho1⟩ := A0.out.v1'
  obtain ⟨oE, hv3, ho3⟩ := A0.out.v3'
  rw [← hlen] at hv1 ho1 hv3 ho3
  have hTl := A0.out.tl
  have hil' : ∀ t ∈ T', t.is.length ≤ 1000 := fun t' ht' => by
    obtain ⟨i, hi⟩ := List.getElem?_of_mem ht'
    have hlt := (List.getElem?_eq_some_iff.1 hi).1
    obtain ⟨t, ht⟩ : ∃ t, T[i]? = some t := ⟨_, List.getElem?_eq_getElem (by omega)⟩
    obtain ⟨u, hu, ha⟩ := hdone i (by omega) t ht
    rw [hi] at hu
    cases hu
    rw [ha.is]
    exact A4.out t (List.mem_of_getElem? ht)
  have x5 : w5.cell? ⟨zx, 0, none⟩ = some (.pointer (some ⟨V.zb, 0, none⟩)) := (World.cell?_of_block (a := ⟨zx, 0, none⟩) (hT.block zx (World.block_lt_of_cell? w1 _ A0.out.x) (fun h => by have := A0.out.nx; omega))).trans A0.out.x
  have hzs := zs_of hZ'.drew (w := w5.drew) x5 hv1 ho1 hv3 ho3
  have hcells := cells_all_ok w5.drew zx V.zb oT oE cT cE T' (fun _ => true) hzs (by omega) hil' (fun i _ => in_all i _)
  have c7 : w5.cell? ⟨V.zb, 7, none⟩ = some (.int .i64 Z.top) := hZ'.cz rfl
  have c8 : w5.cell? ⟨V.zb, 8, none⟩ = some (.int .i64 Z.old) := hZ'.cz rfl
  have f7 : ∀ j, w5.frozen? ⟨V.zb, j, none⟩ = false := fun j => hZ'.fz j
  have nzx : zx ≠ V.zb := fun e => by have := A0.out.nx; have := A0.out.nb; omega
  have hlow := hZ'.low
  have hfin : ZR ((w5.drew.setCell ⟨V.zb, 7, none⟩ (.int .i64 0)).setCell ⟨V.zb, 8, none⟩ (.int .i64 (cellsOf T' (fun _ => true) T'.length))) O' B V H' T' { Z with top := 0, old := cellsOf T' (fun _ => true) T'.length } := zr_num (zr_num hZ'.drew 7 0 (Z' := { Z with top := 0 }) rfl) 8 _ rfl
  have hT' : Turned (fun k => B ≤ k) w1 ((w5.drew.setCell ⟨V.zb, 7, none⟩ (.int .i64 0)).setCell ⟨V.zb, 8, none⟩ (.int .i64 (cellsOf T' (fun _ => true) T'.length))) := (((hT.mono fun _ h => h.1).drew).setCell (.inl hlow) _).setCell (.inl hlow) _
  have hnz : ∀ u : World, u.cell? ⟨zx, 0, none⟩ = some (.pointer (some ⟨V.zb, 0, none⟩)) → ∀ (j : Nat) (v : Value), (u.setCell ⟨V.zb, j, none⟩ v).cell? ⟨zx, 0, none⟩ = some (.pointer (some ⟨V.zb, 0, none⟩)) := fun u hu j v => (cell_set_out (w := u) (a := ⟨zx, 0, none⟩) (by exact nzx)).trans hu
  have B1 := Lib.hid hfin
  have B2 := Lib.hid hT'
  have B3 := Lib.hid hlen
  have B4 := Lib.hid hdone
  have hce : ∃ ce, ce = cellsOf T' (fun _ => true) T'.length := ⟨_, rfl⟩
  obtain ⟨ce, hce⟩ := hce
  rw [← hce] at hcells B1 B2
  have B5 := Lib.hid hce
  clear hfin hT' hlen hdone hce hZ' hT hzs hil' hv1 ho1 hv3 ho3 hlow
  refine wp_seq_k (fun K5 hK5 => ?_)
  have E5 := Lib.hid hK5
  clear hK5
  go_wp2_with fail
  refine wp_region_noPanic ?_
  refine RegU.begin (S := fun wz => wz.cell? ⟨zx, 0, none⟩ = some (.pointer (some ⟨V.zb, 0, none⟩))) (N := [1, 2, 3, 4, 5, 6]) (by kernel_rfl) ?_ (fun hHeld => ?_)
  · (try dsimp only); first | assumption | go_keep
  refine RegU.tk [4, 5, 6, 7, 8, 9] 0 ?_
  refine RegU.tk [7, 8, 9] 1 ?_
  refine RegU.tk [3, 4, 5, 6, 7, 8, 9] 2 ?_
  refine RegU.one (i := 3) (by kernel_rfl) rfl (fun K hK => ?_)
  go_simp
  refine hcells.mono ?_
  rintro e w6 ⟨rfl, rfl⟩
  refine hK.out _ _ x5 (fun hHeld => ?_)
  clear hK K
  try simp only [Act.put, List.setIfInBounds_toArray, List.set_cons_zero, List.set_cons_succ]
  refine RegU.tk [5, 6, 7, 8, 9] 4 ?_
  refine RegU.tk [6, 7, 8, 9] 5 ?_
  refine RegU.one (i := 6) (by kernel_rfl) rfl (fun K hK => ?_)
  go_simp
  refine hK.out _ _ (hnz _ x5 7 _) (fun hHeld => ?_)
  clear hK K
  try simp only [Act.put, List.setIfInBounds_toArray, List.set_cons_zero, List.set_cons_succ]
  refine RegU.tk [8, 9] 7 ?_
  refine RegU.tk [9] 8 ?_
  refine RegU.rest [9] [_] (by kernel_rfl) rfl ?_
  clear hHeld hcells x5 hnz
  go_wp2_with fail
  refine NoPanic.normal ?_
  refine E5.out _ _ ?_
  clear E5 K5 c7 c8 f7
  go_wp2
  exact A5.out _ _ O' T' rfl rfl (by rw [← B5.out]; exact B1.out) B3.out (fun j t ht => B4.out j (List.getElem?_eq_some_iff.1 ht).1 t ht) B2.out
end Go.Proofs.YthbkklnahhdgcaaDoor.PlR

namespace Go.Proofs.YthbkklnahhdgcaaDoor.PlRa
open Go Go.Proofs Go.RowKit Go.Maps Go.Proofs.YthbkklnahhdgcaaDoor.Lib HeapR HeapG ErrC ChA ChT ChCa ChCc ChE ChH ChJ ChL ChN ChO ChQ ChR ChU ChX ChYf ChZ PlT PlZ PlX PlYa PlL PlLa PlLd PlG PlGa PlF PlFa PlGb PlV PlO PlEa PlK PlP

variable {w w' w6 : World} {O : Nat → Nat} {B : Nat} {V V6 : Zv} {H H' : HS} {nu ol kept K : List Ob} {from_ : Int → Bool} {z : Nat} {T T' : List Th} {Z Z6 Z' : Zn} {loc : Nat → Ob} {L : List Nat} {xs s : List Int}
theorem ids_le (hz : ZI H nu ol T Z loc) (hTl : T.length ≤ 1000) : ∀ t ∈ T, 0 ≤ t.id ∧ t.id ≤ 1001 := fun t ht => by
  obtain ⟨i, hi⟩ := List.getElem?_of_mem ht
  have e := hz.ids i t hi
  have h1 := List.countP_le_length (p := ided) (l := T.take i)
  rw [List.length_take] at h1
  by_cases hk : t.kind = 4
  · rw [if_pos hk] at e
    omega
  · rw [if_neg hk] at e
    omega
/-- What the last loop leans on. -/
theorem lx_of (hz : ZI H nu ol T Z loc) (hC : Coll H H' nu ol kept K from_ z) (hiff : ∀ (i : Nat) (t : Th), T[i]? = some t → t.here = true → ((i : Int) ∈ s ↔ loc i ∈ kept ++ K)) (hLed : Led T xs [] s) (hL : ∀ j ∈ L, ∃ t, T[j]? = some t ∧ t.known = true) (hLx : ∀ j ∈ L, (j : Int) + 1 ∈ xs)
    (hTl : T.length ≤ 1000) {n0 zx lv mb gT cT gE cE gW cW gK cK gH : Nat} {oT oW oE oK : Option Addr} (hb : ∀ t ∈ T, t.b < n0)
    (x : w6.cell? ⟨zx, 0, none⟩ = some (.pointer (some ⟨V6.zb, 0, none⟩))) (l : w6.cell? ⟨lv, 0, none⟩ = some (.map (some mb))) (m : Sh w6 mb s) (hh : w6.heap[gH]? = some (.cells (heldRow T.length L).toArray 4 (0, 0)))
    (v1 : V6.tv = .slice oT T.length cT) (o1 : 0 < T.length → oT = some ⟨gT, 0, none⟩) (v2 : V6.wv = .slice oW T.length cW) (o2 : 0 < T.length → oW = some ⟨gW, 0, none⟩) (v3 : V6.ev = .slice oE T.length cE) (o3 : 0 < T.length → oE = some ⟨gE, 0, none⟩) (v4 : V6.kv = .slice oK T.length cK) (o4 : 0 < T.length → oK = some ⟨gK, 0, none⟩)
    (nx : n0 ≤ zx) (nl : n0 ≤ lv) (nm : n0 ≤ mb) (nh : n0 ≤ gH) (nE : gE < n0) (nW : gW < n0) (nK : gK < n0) (nb : V6.zb < n0) :
    LX w6 B n0 V6 H' T (movedT L (mvV from_ K z) T) Z6 (fun i => mvO from_ K z (loc i)) s L zx lv mb gT cT gE cE gW cW gK cK gH ((kept ++ K).map (mvO from_ K z)) := {
  x := x
  l := l
  m := m
  held := hh
  v1' := ⟨oT, v1, o1⟩
  v2' := ⟨oW, v2, o2⟩
  v3' := ⟨oE, v3, o3⟩
  v4' := ⟨oK, v4, o4⟩
  nx := nx
  nl := nl
  nm := nm
  nh := nh
  nE := nE
  nW := nW
  nK := nK
  nb := nb
  nt := fun i t1 h1 => by
    obtain ⟨t, ht, rfl⟩ := movedT_of h1
    have := hb t (List.mem_of_getElem? ht)
    by_cases e : i ∈ L
    · rw [if_pos e]
      exact this
    · rw [if_neg e]
      exact this
  tl := hTl
  ids := ids_le hz hTl
  heldA := fun i t t1 ht h1 hi => by
    obtain ⟨u, hu, e⟩ := movedT_of h1
    rw [ht] at hu
    cases hu
    obtain ⟨u, hu, hk⟩ := hL i hi
    rw [ht] at hu
    cases hu
    obtain ⟨h2, h3⟩ := hz.known i t ht hk
    have h4 := hLed.root _ (hLx i hi) (by omega)
    rw [Int.add_sub_cancel] at h4
    exact aft_held e hi h2 h4 (by rw [h3]; exact mv_ref _ _ _ _)
  freeA := fun i t t1 kn a ht h1 hi hk => by
    obtain ⟨u, hu, e⟩ := movedT_of h1
    rw [ht] at hu
    cases hu
    refine aft_free e hi (fun h => ?_)
    have h2 := hk h
    rw [if_neg hi] at e
    rw [e] at h2
    exact h2
  t1 := fun i t ht => by
    refine ⟨_, movedT_get ht, ?_⟩
    by_cases e : i ∈ L
    · rw [if_pos e]
    · rw [if_neg e]
  says := fun i t1 b c h1 h0 hb hc => by
    obtain ⟨t, ht, e⟩ := movedT_of h1
    have e1 : t1.id = t.id ∧ t1.here = t.here := by
      rw [e]
      by_cases e : i ∈ L
      · rw [if_pos e]
        exact ⟨rfl, rfl⟩
      · rw [if_neg e]
        exact ⟨rfl, rfl⟩
    rw [e1.1] at h0 hb hc
    rw [e1.2]
    exact at_says hz hC hiff ht h0 hb hc }

/-- Behind it all. -/
theorem col_done {w1 : World} {O' : Nat → Nat} (hz : ZI H nu ol T Z loc) (hC : Coll H H' nu ol kept K from_ z) (hiff : ∀ (i : Nat) (t : Th), T[i]? = some t → t.here = true → ((i : Int) ∈ s ↔ loc i ∈ kept ++ K)) (hLed : Led T xs [] s)
    (hZ' : ZR w' O' B V6 H' T' { Z6 with top := 0, old := cellsOf T' (fun _ => true) T'.length }) (hlen : T'.length = T.length) (hA : ∀ (j : Nat) (t : Th), T[j]? = some t → ∃ t', T'[j]? = some t' ∧ Aft (fun i => mvO from_ K z (loc i)) s j t t') (hT : Turned (fun k => B ≤ k) w1 w')
    (hzb : (V6.zb, V6.hb) = (V.zb, V.hb)) (h1 : Z6.most = Z.most) (h2 : Z6.room = Z.room) (h5 : Z6.minors = (H'.minors : Int)) (h6 : Z6.majors = (H'.majors : Int)) (hr : H'.rem.length ≤ H.rem.length) (hmi : H'.minors ≤ H.minors + 1) (hmj : H'.majors ≤ H.majors + 1) (hw : Turned (fun k => B ≤ k) w w1) :
    ColDone w B (V.zb, V.hb) H T w' :=
  ⟨O', V6, H', [], _, T', _, _, hZ', zi_after hz hC hLed hiff hlen hA h1 h2 rfl rfl h5 h6, hzb, hlen, hr, hmi, hmj, hC.room, hw.trans hT⟩
end Go.Proofs.YthbkklnahhdgcaaDoor.PlRa

namespace Go.Proofs.YthbkklnahhdgcaaDoor.PlRb
open Go Go.Proofs Go.RowKit Go.Maps Go.Proofs.YthbkklnahhdgcaaDoor.Lib HeapR HeapG ErrC ChA ChT ChCa ChCc ChE ChH ChJ ChL ChN ChO ChQ ChR ChU ChX ChYf ChZ PlT PlZ PlX PlYa PlL PlLa PlLd PlG PlGa PlF PlFa PlGb PlV PlO PlEa PlEb PlK PlP PlRa

/-- The zoo's slices. -/
structure Slots (V : Zv) (n n0 : Nat) (oT oW oE oK : Option Addr) (gT cT gE cE gW cW gK cK : Nat) : Prop where
  v1 : V.tv = .slice oT n cT
  o1 : 0 < n → oT = some ⟨gT, 0, none⟩
  v2 : V.wv = .slice oW n cW
  o2 : 0 < n → oW = some ⟨gW, 0, none⟩
  v3 : V.ev = .slice oE n cE
  o3 : 0 < n → oE = some ⟨gE, 0, none⟩
  v4 : V.kv = .slice oK n cK
  o4 : 0 < n → oK = some ⟨gK, 0, none⟩
  nT : gT < n0
  nW : gW < n0
  nE : gE < n0
  nK : gK < n0
theorem slots_of {w : World} {O : Nat → Nat} {B : Nat} {V : Zv} {H : HS} {T : List Th} {Z : Zn} (h : ZR w O B V H T Z) : ∃ (oT oW oE oK : Option Addr) (gT cT gE cE gW cW gK cK : Nat), Slots V T.length w.heap.size oT oW oE oK gT cT gE cE gW cW gK cK := by
  have hp : 0 < w.heap.size := Nat.lt_of_le_of_lt (Nat.zero_le _) h.zlt
  obtain ⟨g1, o1, c1, e1, f1, l1⟩ := slot h.things hp
  obtain ⟨g2, o2, c2, e2, f2, l2⟩ := slot h.wher hp
  obtain ⟨g3, o3, c3, e3, f3, l3⟩ := slot h.here hp
  obtain ⟨g4, o4, c4, e4, f4, l4⟩ := slot h.known hp
  exact ⟨o1, o2, o3, o4, g1, c1, g3, c3, g2, c2, g4, c4, e1, f1, e2, f2, e3, f3, e4, f4, l1, l2, l3, l4⟩

/-- Ahead of the collection: w is the world at the call, w2 this one. -/
structure CX (w w2 : World) (zb : Nat) (what : Int) (T : List Th) (zx sx gH gW : Nat) (L M : List Nat) (oA : Option Addr) (cA : Nat) (oB : Option Addr) (cB nB : Nat) : Prop where
  ln : nB = (L ++ M).length
  bel : Below w.heap.size w w2
  x : w2.cell? ⟨zx, 0, none⟩ = some (.pointer (some ⟨zb, 0, none⟩))
  s0 : w2.cell? ⟨sx, 0, none⟩ = some (.int .i64 what)
  held : w2.heap[gH]? = some (.cells (heldRow T.length L).toArray 4 (0, 0))
  rowA : w2.ownsRow w.heap.size 208 1 (.slice oA L.length cA) L.length (L.map fun j => .pointer (some ⟨gW, j * 3, none⟩))
  rowB : w2.ownsRow w.heap.size 3 1 (.slice oB nB cB) nB (numOf (L ++ M))
  nx : w.heap.size ≤ zx
  nsx : w.heap.size ≤ sx
  nh : w.heap.size ≤ gH
  hL : ∀ j ∈ L, ∃ t, T[j]? = some t ∧ t.known = true
  ll : L.length ≤ T.length
  hM : (what = 2 → ∀ j, j ∈ M ↔ j < T.length ∧ ∃ t, T[j]? = some t ∧ t.here = true ∧ t.old = true) ∧ (what ≠ 2 → M = [])
  ml : M.length ≤ T.length
variable {w w2 w3 : World} {zb : Nat} {what : Int} {T : List Th} {zx sx gH gW : Nat} {L M : List Nat} {oA oB : Option Addr} {cA cB nB : Nat}
theorem CX.below (h : CX w w2 zb what T zx sx gH gW L M oA cA oB cB nB) (hb : Below w2.heap.size w2 w3) : CX w w3 zb what T zx sx gH gW L M oA cA oB cB nB :=
  { h with
    bel := h.bel.trans (hb.mono h.bel.size)
    x := (hb.cell (World.block_lt_of_cell? w2 _ h.x)).trans h.x
    s0 := (hb.cell (World.block_lt_of_cell? w2 _ h.s0)).trans h.s0
    held := (hb.block _ (lt_of_block h.held)).trans h.held
    rowA := ownsRow_same h.rowA fun k hk => hb.block k (own_lt h.rowA hk).2
    rowB := ownsRow_same h.rowB fun k hk => hb.block k (own_lt h.rowB hk).2 }

/-- Behind the collection, ahead of the last loop. -/
def Mid (w : World) (B : Nat) (V : Zv) (H : HS) (T : List Th) (L : List Nat) (s : List Int) (zx lv mb gT cT gE cE gW cW gK cK gH : Nat) (w6 : World) : Prop :=
  ∃ (O' : Nat → Nat) (V6 : Zv) (H' : HS) (T1 : List Th) (Z6 : Zn) (loc' : Nat → Ob) (ol' : List Ob), LX w6 B w.heap.size V6 H' T T1 Z6 loc' s L zx lv mb gT cT gE cE gW cW gK cK gH ol' ∧ HI H' [] ol' ∧ ZR w6 O' B V6 H' T1 Z6 ∧ T1.length = T.length ∧
    ∀ (w' : World) (O'' : Nat → Nat) (T' : List Th), ZR w' O'' B V6 H' T' { Z6 with top := 0, old := cellsOf T' (fun _ => true) T'.length } → T'.length = T.length → (∀ (j : Nat) (t : Th), T[j]? = some t → ∃ t', T'[j]? = some t' ∧ Aft loc' s j t t') → Turned (fun k => B ≤ k) w6 w' → ColDone w B (V.zb, V.hb) H T w'
end Go.Proofs.YthbkklnahhdgcaaDoor.PlRb

namespace Go.Proofs.YthbkklnahhdgcaaDoor.PlRc
open Go Go.Proofs Go.RowKit Go.Maps Go.Proofs.YthbkklnahhdgcaaDoor.Lib HeapR HeapB HeapC HeapD HeapG HeapH ErrC ChA ChT ChCa ChCc ChE ChH ChI ChJ ChK ChL ChN ChO ChP ChQ ChR ChU ChV ChW ChX ChYf ChZ PlA PlT PlZ PlX PlYa PlU PlQ PlL PlLa PlLb PlLc PlLd PlE PlEa PlEb PlF PlFa PlFb PlFc PlFd PlG PlGa PlGb PlV PlO PlK PlP PlR PlRa PlRb

variable {w w4 : World} {O : Nat → Nat} {B : Nat} {V : Zv} {H : HS} {nu ol : List Ob} {T : List Th} {Z : Zn} {loc : Nat → Ob}
theorem big_sum (h : ZR w O B V H T Z) (hz : ZI H nu ol T Z loc) : IntKind.i64.wrap (Z.old + Z.top) = Z.old + Z.top := by
  have h1 := h.hr.om
  have h2 := h.hr.mm
  have h3 := h.hr.rr
  have h4 := hz.hi.fit
  have h5 := hz.hi.olen
  have h6 := hz.top
  have h7 := hz.old
  exact IntWalk.i64_in _ (by omega)

theorem col_minor {Q : Exit → Act → World → Prop} {u0 u1 u3 u4 u6 u7 u8 u9 Ja Jb Jc Jd Je Jf Jg Jh Ji Jj Jk Jl Jm Jn Jo Jp Jq Jr Js Jt Ju Jv Jw Jx Jy Jz Qa Qb Qc Qd Qe Qf Qg Qh Qi Qj Qk Ql Qm Qn Qo Qp Qq Qr Qs Qt Qu Qv Qw Qx Qy Qz Xe Xg Xh Xi Xj Xk Xn Xo Xp Xq Xt Xu Xv Xx Xy Xz Yg Yh Yi Yj Yk Yl Ym Yn Yo Yp Yq Yr Ys Yt Yu Yv Yw Yx Yy Yz Ua Ub Uc Ud Ue Uf Ug Uh Ui Uj Uk Ul Um Un Uo Up Uq Ur Us Ut Uu Uv Uw Ux Uy Uz Wc Wd We Wf Wg Wh Wi Wj Wk Wl Wm Wn Wo Wp Wq Wt Wu Ww Wx Wy Wz Ka Kb Kc Kd Ke Kf Kg Kh Kj Kl Km Kn Ko Kp Kq Kr Kt Ku Kv Kw Kx Ky Kz Rg Rh Ri Rj Rk Rl Rm Rp Rq Rt Ru Rx Ry Rz Gc Ge Gf Gg Gh Gi Gj Gm Gn Gp Gq Gt Gu Gv Gx Gy Gz Fe Ff Fg Fh Fi Fj Fk Fm Fo Fp Fq Fs Ft Fu Fv Fw Fx Fy Fz Ec Ee Ef Eg Eh Ei Ej Ek Em En Eo Ep Eu Ev Ex Ey Ez Da Db Dc Dd Dg Dh Di Dj Dk Dl Dm Dn Do Dp Dq Dt Du Dv Dw Dx Dy Dz Pa Pb Pc Pe Pf Pg Ph Pi Pj Pk Pm Pn Po Pq Ps Pt Pu Pv Pw Px Py Pz Na : Value} (h : ZR w O B V H T Z) (hz : ZI H nu ol T Z loc) (hTl : T.length ≤ 1000) (hrl : H.rem.length ≤ big) (hmi : H.minors < big)
    {zx sx lv mb gT cT gE cE gW cW gK cK gH cA cB nB : Nat} {oT oW oE oK oA oB : Option Addr} {L M : List Nat} {s : List Int} (hS : Slots V T.length w.heap.size oT oW oE oK gT cT gE cE gW cW gK cK) (hX : CX w w4 V.zb 2 T zx sx gH gW L M oA cA oB cB nB)
    (hl : w4.cell? ⟨lv, 0, none⟩ = some (.map (some mb))) (hm : Sh w4 mb s) (hLed : Led T (numsOf (L ++ M)) [] s) (nl : w.heap.size ≤ lv) (nm : w.heap.size ≤ mb)
    (hQ1 : ∀ (z12 zCi zCj zCk zCl zCm zCn zCo zCp zCq zCr zCs zCt zCu zCv zCw zCx zCy zCz zCA zCB zCC zCD zCE zCF zCG zCH zCI zCJ zCK zCL zCM : Value) (w6 : World), Mid w B V H T L s zx lv mb gT cT gE cE gW cW gK cK gH w6 → Q .normal ⟨#[u0,u1,(.pointer (some ⟨zx,0,none⟩)),u3,u4,(.slice oA L.length cA),u6,u7,u8,u9,Ja,Jb,z12,Jd,Je,Jf,Jg,Jh,Ji,Jj,Jk,Jl,Jm,Jn,Jo,Jp,Jq,Jr,Js,Jt,Ju,Jv,Jw,Jx,Jy,Jz,Qa,Qb,Qc,Qd,Qe,Qf,Qg,Qh,Qi,Qj,Qk,Ql,Qm,Qn,Qo,Qp,Qq,Qr,Qs,Qt,Qu,Qv,Qw,Qx,Qy,Qz,Xe,Xg,Xh,Xi,Xj,Xk,Xn,Xo,Xp,Xq,Xt,Xu,Xv,Xx,Xy,Xz,Yg,Yh,Yi,Yj,Yk,Yl,Ym,Yn,Yo,Yp,Yq,Yr,Ys,Yt,Yu,Yv,Yw,Yx,Yy,Yz,Ua,Ub,Uc,Ud,Ue,Uf,Ug,Uh,Ui,Uj,Uk,Ul,Um,Un,zCi,zCj,zCk,zCl,zCm,zCn,zCo,zCp,zCq,zCr,zCs,zCt,zCu,zCv,zCw,zCx,zCy,zCz,zCA,zCB,zCC,zCD,zCE,zCF,zCG,zCH,zCI,zCJ,zCK,zCL,zCM,Wy,Wz,Ka,Kb,Kc,Kd,Ke,Kf,Kg,Kh,Kj,Kl,Km,Kn,Ko,Kp,Kq,Kr,Kt,Ku,Kv,Kw,Kx,Ky,Kz,Rg,Rh,Ri,Rj,Rk,Rl,Rm,Rp,Rq,Rt,Ru,Rx,Ry,Rz,Gc,Ge,Gf,Gg,Gh,Gi,Gj,Gm,Gn,Gp,Gq,Gt,Gu,Gv,Gx,Gy,Gz,Fe,Ff,Fg,Fh,Fi,Fj,Fk,Fm,Fo,Fp,Fq,Fs,Ft,Fu,Fv,Fw,Fx,Fy,Fz,Ec,Ee,Ef,Eg,Eh,Ei,Ej,Ek,Em,En,Eo,Ep,Eu,Ev,Ex,Ey,Ez,Da,Db,Dc,Dd,Dg,Dh,Di,Dj,Dk,Dl,Dm,Dn,Do,Dp,Dq,Dt,Du,Dv,Dw,Dx,Dy,Dz,Pa,Pb,Pc,Pe,Pf,Pg,Ph,Pi,Pj,Pk,Pm,Pn,Po,Pq,Ps,Pt,Pu,Pv,Pw,Px,Py,Pz,Na], []⟩ w6)
    (hQ2 : ∀ (a' : Act) (w' : World), a'.tmps.getD 4 undef = .bool true → a'.defers = [] → ColDone w B (V.zb, V.hb) H T w' → Q .ret a' w') :
    Code.wp Tryd.prog (Cut.piece Tryd.f73 (Cut.tail 18)) Q ⟨#[u0,u1,(.pointer (some ⟨zx,0,none⟩)),u3,u4,(.slice oA L.length cA),u6,u7,u8,u9,Ja,Jb,Jc,Jd,Je,Jf,Jg,Jh,Ji,Jj,Jk,Jl,Jm,Jn,Jo,Jp,Jq,Jr,Js,Jt,Ju,Jv,Jw,Jx,Jy,Jz,Qa,Qb,Qc,Qd,Qe,Qf,Qg,Qh,Qi,Qj,Qk,Ql,Qm,Qn,Qo,Qp,Qq,Qr,Qs,Qt,Qu,Qv,Qw,Qx,Qy,Qz,Xe,Xg,Xh,Xi,Xj,Xk,Xn,Xo,Xp,Xq,Xt,Xu,Xv,Xx,Xy,Xz,Yg,Yh,Yi,Yj,Yk,Yl,Ym,Yn,Yo,Yp,Yq,Yr,Ys,Yt,Yu,Yv,Yw,Yx,Yy,Yz,Ua,Ub,Uc,Ud,Ue,Uf,Ug,Uh,Ui,Uj,Uk,Ul,Um,Un,Uo,Up,Uq,Ur,Us,Ut,Uu,Uv,Uw,Ux,Uy,Uz,Wc,Wd,We,Wf,Wg,Wh,Wi,Wj,Wk,Wl,Wm,Wn,Wo,Wp,Wq,Wt,Wu,Ww,Wx,Wy,Wz,Ka,Kb,Kc,Kd,Ke,Kf,Kg,Kh,Kj,Kl,Km,Kn,Ko,Kp,Kq,Kr,Kt,Ku,Kv,Kw,Kx,Ky,Kz,Rg,Rh,Ri,Rj,Rk,Rl,Rm,Rp,Rq,Rt,Ru,Rx,Ry,Rz,Gc,Ge,Gf,Gg,Gh,Gi,Gj,Gm,Gn,Gp,Gq,Gt,Gu,Gv,Gx,Gy,Gz,Fe,Ff,Fg,Fh,Fi,Fj,Fk,Fm,Fo,Fp,Fq,Fs,Ft,Fu,Fv,Fw,Fx,Fy,Fz,Ec,Ee,Ef,Eg,Eh,Ei,Ej,Ek,Em,En,Eo,Ep,Eu,Ev,Ex,Ey,Ez,Da,Db,Dc,Dd,Dg,Dh,Di,Dj,Dk,Dl,Dm,Dn,Do,Dp,Dq,Dt,Du,Dv,Dw,Dx,Dy,Dz,Pa,Pb,Pc,Pe,Pf,Pg,Ph,Pi,Pj,Pk,Pm,Pn,Po,Pq,Ps,Pt,Pu,Pv,Pw,Px,Py,Pz,Na], []⟩ w4 := by
  conv => arg 2; whnf
  have hZ4 := h.below hX.bel
  have hlt := PlV.ZR.allLt h
  have hsz := hX.bel.size
  have hvW : 0 < T.length → V.wv = .slice (some ⟨gW, 0, none⟩) T.length cW := fun h0 => by rw [hS.v2, hS.o2 h0]
  have hroots : RootsAt w4 (Owns V.hb V.nb V.mb V.ov V.rv) (.slice oA L.length cA) (rsOf gW L) (fOf T) := zoo_roots hZ4 hvW (fun j hj => by obtain ⟨t, ht, _⟩ := hX.hL j hj; exact ⟨t, ht⟩) (by have := hX.ll; unfold big; omega) hX.rowA (fun k hk => by
    have h1 := (own_lt hX.rowA hk).1
    exact ⟨fun h2 => by have := hlt.heap k h2; omega, fun _ e => by have := hS.nW; omega⟩)
  have hroot : ∀ a ∈ rsOf gW L, (fOf T a).k = 4 → ∃ x ∈ nu ++ ol, (fOf T a).n = (x.addr : Int) := fun a ha _ => by
    obtain ⟨j, hj, rfl⟩ := rs_mem.1 ha
    obtain ⟨t, ht, hk⟩ := hX.hL j hj
    obtain ⟨h1, h2⟩ := hz.known j t ht hk
    rw [fOf_at ht, h2]
    exact ⟨loc j, (hz.obj j t ht h1).1, rfl⟩
  have hnx : H.next ≤ big := by
    rw [hz.next]
    have := List.countP_le_length (p := ided) (l := T)
    unfold big
    omega
  have x1 := hX.x
  have z0 : w4.cell? ⟨V.zb, 0, none⟩ = some (.pointer (some ⟨V.hb, 0, none⟩)) := hZ4.cz rfl
  have hbig := big_sum h hz
  have htop := hz.top
  have hold := hz.old
  have hmost := hz.most
  have A0 := Lib.hid h
  have A1 := Lib.hid hz
  have A2 := Lib.hid hS
  have A3 := Lib.hid hX
  have A4 := Lib.hid hl
  have A5 := Lib.hid hm
  have A6 := Lib.hid hLed
  have A7 := Lib.hid hQ1
  have A8 := Lib.hid hQ2
  have A9 := Lib.hid hZ4
  have A10 := Lib.hid hlt
  have A11 := Lib.hid hroots
  have A12 := Lib.hid hroot
  have A13 := Lib.hid hsz
  have A14 := Lib.hid hvW
  clear h hz hS hX hl hm hLed hQ1 hQ2 hZ4 hlt hroots hroot hsz hvW
  by_cases hf : total ol + total nu ≤ H.most
  · have hminor := minor_ok A9.out.hr A1.out.hi A11.out A12.out hf hnx hrl hmi
    have g1 : decide (Z.most < Z.old + Z.top) = false := by
      simp
      omega
    have A15 := Lib.hid htop
    have A16 := Lib.hid hold
    have A17 := Lib.hid hmost
    clear htop hold hmost hnx
    refine wp_seq_k (fun K1 hK1 => ?_)
    have E1 := Lib.hid hK1
    clear hK1
    go_wp2_with fail
    refine hminor.mono ?_
    rintro e w5 ⟨rfl, tv, H', K, hM⟩
    clear hminor z0
    obtain ⟨hC, hiff⟩ := minor_iff A1.out (fun j hj => A3.out.hL j hj) (A3.out.hM.1 rfl) A6.out hM
    have hT5 := hM.turned
    have keep : ∀ k, w.heap.size ≤ k → k < w4.heap.size → w5.heap[k]? = w4.heap[k]? := fun k h1 h2 => hT5.block k h2 (fun h3 => by
      rcases h3 with h3 | ⟨a, ha, e⟩
      · have := A10.out.heap k h3
        omega
      · obtain ⟨j, _, rfl⟩ := rs_mem.1 ha
        have e' : gW = k := e
        have := A2.out.nW
        omega)
    have hZ5 := zr_moved A9.out A14.out (L := L) (fun j hj => by obtain ⟨t, ht, _⟩ := A3.out.hL j hj; exact ⟨t, ht⟩) (mvV (minFrom H) K (H.room + total ol)) hM.hr hT5 (fun k hk => by
      rcases hk with e | e | e | e | e
      · exact .inl (.inl e)
      · exact .inl (.inr (.inl e))
      · exact .inl (.inr (.inr (.inl e)))
      · rcases hM.own k e with h2 | h2
        · exact .inl (.inr (.inr (.inr (.inl h2))))
        · exact .inr h2
      · cases e) (fun j hj t ht r hr => by
      have h2 := hM.cells (gW, j * 3) (rs_mem.2 ⟨j, hj, rfl⟩)
      rw [fOf_at ht] at h2
      match r, hr with
      | 0, _ => exact h2.1.trans (by rw [← mvV_k (from_ := minFrom H) (L := K) (z := H.room + total ol)]; rfl)
      | 1, _ => exact h2.2.1
      | 2, _ => exact h2.2.2.1.trans (by rw [← mvV_s (from_ := minFrom H) (L := K) (z := H.room + total ol)]; rfl)) hM.sizes
    have x5 : w5.cell? ⟨zx, 0, none⟩ = some (.pointer (some ⟨V.zb, 0, none⟩)) := (World.cell?_of_block (a := ⟨zx, 0, none⟩) (keep zx A3.out.nx (World.block_lt_of_cell? w4 _ x1))).trans x1
    have c8 : w5.cell? ⟨V.zb, 8, none⟩ = some (.int .i64 Z.old) := hZ5.cz rfl
    have c7 : w5.cell? ⟨V.zb, 7, none⟩ = some (.int .i64 Z.top) := hZ5.cz rfl
    have c5 : w5.cell? ⟨V.zb, 5, none⟩ = some (.int .i64 Z.most) := hZ5.cz rfl
    have c9 : w5.drew.cell? ⟨V.zb, 9, none⟩ = some (.int .i64 Z.minors) := hZ5.cz rfl
    have f9 : w5.drew.frozen? ⟨V.zb, 9, none⟩ = false := hZ5.fz 9
    have x6 : w5.drew.cell? ⟨zx, 0, none⟩ = some (.pointer (some ⟨V.zb, 0, none⟩)) := x5
    have hmin := A1.out.minors
    have hw9 : IntKind.i64.wrap (Z.minors + 1) = Z.minors + 1 := IntWalk.i64_in _ (by unfold big at hmi; omega)
    have hZ6 := zr_num hZ5.drew 9 (Z.minors + 1) (Z' := { Z with minors := Z.minors + 1 }) rfl
    have nzz : w.heap.size ≤ V.zb → False := fun e => by have := A10.out.zb; omega
    have keep6 : ∀ k, w.heap.size ≤ k → k < w4.heap.size → (w5.drew.setCell ⟨V.zb, 9, none⟩ (.int .i64 (Z.minors + 1))).heap[k]? = w4.heap[k]? := fun k h1 h2 => (blk_ne (w := w5.drew) (p := ⟨V.zb, 9, none⟩) (fun e => nzz (by
      have e' : k = V.zb := e
      omega))).trans (keep k h1 h2)
    have hT6 : Turned (fun k => B ≤ k) w (w5.drew.setCell ⟨V.zb, 9, none⟩ (.int .i64 (Z.minors + 1))) := by
      have hBW : ∀ a ∈ rsOf gW L, B ≤ a.1 := fun a ha => by
        obtain ⟨j, hj, rfl⟩ := rs_mem.1 ha
        obtain ⟨t, ht, _⟩ := A3.out.hL j hj
        have := (List.getElem?_eq_some_iff.1 ht).1
        exact (wblk A9.out (A14.out (by omega))).2.choose_spec.2.1
      have h1 : Turned (fun k => B ≤ k) w w4 := Turned.of_below _ A3.out.bel
      have h2 : Turned (fun k => B ≤ k) w4 w5 := hT5.mono fun k hk => by
        rcases hk with hk | ⟨a, ha, e⟩
        · exact A0.out.hr.ge hk
        · rw [← e]
          exact hBW a ha
      exact ((h1.trans h2).drew).setCell (.inl A0.out.low) _
    have hrem : H'.rem.length = 0 := by
      have h2 := hM.hr.rem
      rcases h2.2 with ⟨_, e⟩ | ⟨_, _, _, e, _⟩
      · exact e
      · cases e
    have hM1 : H'.minors = H.minors + 1 := hM.minors
    have hM2 : H'.majors = H.majors := hM.majors
    have hmaj := A1.out.majors
    have hMid : Mid w B V H T L s zx lv mb gT cT gE cE gW cW gK cK gH (w5.drew.setCell ⟨V.zb, 9, none⟩ (.int .i64 (Z.minors + 1))) := by
      refine ⟨_, _, H', _, _, _, _, lx_of (Z6 := { Z with minors := Z.minors + 1 }) (V6 := { V with mb := V.mb, ov := tv, rv := .slice none 0 0 }) A1.out hC hiff A6.out A3.out.hL (fun j hj => nums_mem.2 (List.mem_append.mpr (Or.inl hj))) hTl (fun t ht => (A10.out.th t ht).1) ?_ ?_ ?_ ?_ A2.out.v1 A2.out.o1 A2.out.v2 A2.out.o2 A2.out.v3 A2.out.o3 A2.out.v4 A2.out.o4 A3.out.nx nl nm A3.out.nh A2.out.nE A2.out.nW A2.out.nK A10.out.zb, hC.hi, hZ6, movedT_length, fun w' O'' T' h1 h2 h3 h4 => ?_⟩
      · exact (World.cell?_of_block (a := ⟨zx, 0, none⟩) (keep6 zx A3.out.nx (World.block_lt_of_cell? w4 _ x1))).trans x1
      · exact (World.cell?_of_block (a := ⟨lv, 0, none⟩) (keep6 lv nl (World.block_lt_of_cell? w4 _ A4.out))).trans A4.out
      · exact A5.out.same (keep6 mb nm A5.out.lt)
      · exact (keep6 gH A3.out.nh (lt_of_block A3.out.held)).trans A3.out.held
      · exact col_done A1.out hC hiff A6.out h1 h2 h3 h4 rfl rfl rfl (by show Z.minors + 1 = _; omega) (by show Z.majors = _; omega) (by omega) (by omega) (by omega) hT6
    have B1 := Lib.hid hMid
    clear hMid hT6 keep6 hZ6 hZ5 keep hC hiff hT5 hM hrem hM1 hM2 hmin hmaj x1 hf
    go_wp2_with fail
    refine E1.out _ _ ?_
    clear E1 K1
    go_wp2_with fail
    refine wp_region_noPanic ?_
    refine RegU.begin (S := fun wz => wz.cell? ⟨zx, 0, none⟩ = some (.pointer (some ⟨V.zb, 0, none⟩)) ∧ wz.cell? ⟨V.zb, 8, none⟩ = some (.int .i64 Z.old) ∧ wz.cell? ⟨V.zb, 7, none⟩ = some (.int .i64 Z.top) ∧ wz.cell? ⟨V.zb, 5, none⟩ = some (.int .i64 Z.most)) (N := [4, 5, 6, 7, 9, 10, 11, 12]) (by kernel_rfl) ?_ (fun hHeld => ?_)
    · (try dsimp only); first | assumption | go_keep
    refine RegU.tk [1, 2, 3, 8, 13] 0 ?_
    refine RegU.tk [2, 3, 8, 13] 1 ?_
    refine RegU.tk [3, 8, 13] 2 ?_
    refine RegU.tk [8, 13] 3 ?_
    refine RegU.tk [5, 6, 7, 8, 13] 4 ?_
    refine RegU.tk [6, 7, 8, 13] 5 ?_
    refine RegU.tk [7, 8, 13] 6 ?_
    refine RegU.tk [8, 13] 7 ?_
    refine RegU.tk [13] 8 ?_
    refine RegU.tk [10, 11, 12, 13] 9 ?_
    refine RegU.tk [11, 12, 13] 10 ?_
    refine RegU.tk [12, 13] 11 ?_
    refine RegU.tk [13] 12 ?_
    refine RegU.tk [] 13 ?_
    refine RegU.rest [] [] (by kernel_rfl) rfl ?_
    clear hHeld x5 c8 c7 c5
    go_wp2_with fail
    refine NoPanic.normal ?_
    go_wp2
    exact A7.out _ _ _ _ _ _ _ _ _ _ _ _ _ _ _ _ _ _ _ _ _ _ _ _ _ _ _ _ _ _ _ _ _ B1.out
  · have hf' : H.most < total ol + total nu := by omega
    have hminor := minor_full A9.out.hr A1.out.hi (.slice oA L.length cA) hf'
    have g1 : decide (Z.most < Z.old + Z.top) = true := by
      simp
      omega
    clear htop hold hmost hnx hf
    refine wp_seq_k (fun K1 hK1 => ?_)
    have E1 := Lib.hid hK1
    clear hK1
    go_wp2_with fail
    refine hminor.mono ?_
    rintro e w5 ⟨rfl, hb5⟩
    clear hminor z0
    have hb05 := A3.out.bel.trans (hb5.mono A13.out)
    have hZ5 := A0.out.below hb05
    have x5 : w5.cell? ⟨zx, 0, none⟩ = some (.pointer (some ⟨V.zb, 0, none⟩)) := (hb5.cell (World.block_lt_of_cell? w4 _ x1)).trans x1
    have c8 : w5.cell? ⟨V.zb, 8, none⟩ = some (.int .i64 Z.old) := hZ5.cz rfl
    have c7 : w5.cell? ⟨V.zb, 7, none⟩ = some (.int .i64 Z.top) := hZ5.cz rfl
    have c5 : w5.cell? ⟨V.zb, 5, none⟩ = some (.int .i64 Z.most) := hZ5.cz rfl
    have hbare := bare_errno 12 12 w5.drew hZ5.drew.et
    have B1 := Lib.hid hb05
    clear hb05 hZ5 hb5 x1
    go_wp2_with fail
    refine E1.out _ _ ?_
    clear E1 K1
    go_wp2_with fail
    refine wp_region_noPanic ?_
    refine RegU.begin (S := fun wz => wz.cell? ⟨zx, 0, none⟩ = some (.pointer (some ⟨V.zb, 0, none⟩)) ∧ wz.cell? ⟨V.zb, 8, none⟩ = some (.int .i64 Z.old) ∧ wz.cell? ⟨V.zb, 7, none⟩ = some (.int .i64 Z.top) ∧ wz.cell? ⟨V.zb, 5, none⟩ = some (.int .i64 Z.most)) (N := [4, 5, 6, 7, 9, 10, 11, 12]) (by kernel_rfl) ?_ (fun hHeld => ?_)
    · (try dsimp only); first | assumption | go_keep
    refine RegU.tk [1, 2, 3, 8, 13] 0 ?_
    refine RegU.tk [2, 3, 8, 13] 1 ?_
    refine RegU.tk [3, 8, 13] 2 ?_
    refine RegU.tk [8, 13] 3 ?_
    refine RegU.tk [5, 6, 7, 8, 13] 4 ?_
    refine RegU.tk [6, 7, 8, 13] 5 ?_
    refine RegU.tk [7, 8, 13] 6 ?_
    refine RegU.tk [8, 13] 7 ?_
    refine RegU.tk [13] 8 ?_
    refine RegU.tk [10, 11, 12, 13] 9 ?_
    refine RegU.tk [11, 12, 13] 10 ?_
    refine RegU.tk [12, 13] 11 ?_
    refine RegU.tk [13] 12 ?_
    refine RegU.tk [] 13 ?_
    refine RegU.rest [] [] (by kernel_rfl) rfl ?_
    clear hHeld x5 c8 c7 c5
    go_wp2_with fail
    refine NoPanic.normal ?_
    go_wp2_with fail
    refine hbare.mono ?_
    rintro e w7 ⟨rfl, hb7⟩
    clear hbare
    go_wp2_with fail
    have hb07 := B1.out.drew.trans (hb7.mono (by have := B1.out.size; exact this))
    exact A8.out _ _ rfl rfl ⟨O, V, H, nu, ol, T, Z, loc, A0.out.below hb07, A1.out, rfl, rfl, Nat.le_refl _, Nat.le_succ _, Nat.le_succ _, rfl, Turned.of_below _ hb07⟩
end Go.Proofs.YthbkklnahhdgcaaDoor.PlRc
