/-
  HeapPlays' zoo with one thing more: what makes leaves. No walk in sight.
-/
import Derived.Test.YthbkklnahhdgcaaDoorPG14
import Derived.Test.YthbkklnahhdgcaaDoorPPlQ
import Derived.Test.YthbkklnahhdgcaaDoorPG00
set_option maxRecDepth 100000
set_option maxHeartbeats 4000000
namespace Go.Proofs.YthbkklnahhdgcaaDoor.PlV
open Go Go.Proofs Go.RowKit Go.Maps Go.Proofs.YthbkklnahhdgcaaDoor.Lib HeapR HeapG ErrC ChA ChT ChCa ChCc ChE ChH ChL ChN ChO ChZ PlC PlZ PlM PlN PlQ

variable {w : World} {O : Nat → Nat} {B : Nat} {V : Zv} {H : HS} {T : List Th} {Z : Zn}
/-- All blocks of the zoo lie below n0. -/
structure ZLt (V : Zv) (T : List Th) (n0 : Nat) : Prop where
  zb : V.zb < n0
  heap : ∀ k, V.heap k → k < n0
  tv : ∀ k, V.tv.ownBlock = some k → k < n0
  wv : ∀ k, V.wv.ownBlock = some k → k < n0
  ev : ∀ k, V.ev.ownBlock = some k → k < n0
  kv : ∀ k, V.kv.ownBlock = some k → k < n0
  th : ∀ t ∈ T, t.b < n0 ∧ ∀ k, t.iv.ownBlock = some k → k < n0
theorem ZR.allLt (h : ZR w O B V H T Z) : ZLt V T w.heap.size :=
  ⟨h.zlt, fun _ hk => h.hr.lt hk, fun _ hk => (own_lt h.things hk).2, fun _ hk => (own_lt h.wher hk).2, fun _ hk => (own_lt h.here hk).2, fun _ hk => (own_lt h.known hk).2, fun t ht => ⟨h.tlt ht, fun _ hk => (own_lt (h.thing t ht).2 hk).2⟩⟩

/-- The zoo's slices behind makes. -/
def grown (V : Zv) (n gA kA gB kB gC kC gD kD : Nat) : Zv :=
  { V with tv := .slice (some ⟨gA, 0, none⟩) (n + 1) kA, wv := .slice (some ⟨gB, 0, none⟩) (n + 1) kB, ev := .slice (some ⟨gC, 0, none⟩) (n + 1) kC, kv := .slice (some ⟨gD, 0, none⟩) (n + 1) kD }
def tagged (O : Nat → Nat) (n : Nat) (t : Th) (gA gB gC gD : Nat) (k : Nat) : Nat :=
  if k = t.b then 2 * n + 6 else if t.iv.ownBlock = some k then 2 * n + 7 else if k = gA then 2 else if k = gB then 3 else if k = gC then 4 else if k = gD then 5 else O k

theorem zr_grow {w1 w2 w3 : World} {n0 n : Nat} {t : Th} {gA kA gB kB gC kC gD kD : Nat} {top' : Int} (h : ZR w O B V H T Z) (hlt : ZLt V T n0) (hn0 : n0 ≤ w.heap.size) (hBn : B ≤ n0) (hn : n = T.length)
    (htb : n0 ≤ t.b) (htl : w.heap[t.b]? = some (.cells t.block 186 (0, 0))) (hiv : w.ownsRow n0 3 1 t.iv t.is.length (t.is.map (Value.int .i64))) (hti : ∀ k, t.iv.ownBlock = some k → k ≠ t.b)
    (h1 : w1 = w.drew.setCell ⟨V.zb, 7, none⟩ (.int .i64 top'))
    (hA : Two w1 B V.zb 1 2 184 1 28 3 V.tv V.wv n n (T.map Th.ptr ++ [t.ptr]) (wVals T ++ vlVals t.wv) gA kA gB kB w2)
    (hC : Two w2 B V.zb 3 4 4 1 4 1 V.ev V.kv n n (T.map (fun t => .bool t.here) ++ [.bool t.here]) (T.map (fun t => .bool t.known) ++ [.bool t.known]) gC kC gD kD w3) :
    ZR w3 (tagged O n t gA gB gC gD) B (grown V n gA kA gB kB gC kC gD kD) H (T ++ [t]) { Z with top := top' } ∧ Turned (fun k => k = V.zb ∨ V.tv.ownBlock = some k ∨ V.wv.ownBlock = some k ∨ V.ev.ownBlock = some k ∨ V.kv.ownBlock = some k) w w3 := by
  subst hn
  obtain ⟨wa, hTa, ew2⟩ := hA.wk
  obtain ⟨wc, hTc, ew3⟩ := hC.wk
  have f2 : ∀ k, k ≠ V.zb → w2.heap[k]? = wa.heap[k]? := fun k hk => by
    rw [ew2]
    exact (blk_ne hk).trans (blk_ne hk)
  have f3 : ∀ k, k ≠ V.zb → w3.heap[k]? = wc.heap[k]? := fun k hk => by
    rw [ew3]
    exact (blk_ne hk).trans (blk_ne hk)
  have hT1 : Turned (fun k => k = V.zb) w w1 := by
    rw [h1]
    exact Turned.setCell (Turned.refl (fun k => k = V.zb) w).drew (p := ⟨V.zb, 7, none⟩) (.inl rfl) _
  have hTb : Turned (fun k => k = V.zb ∨ V.tv.ownBlock = some k ∨ V.wv.ownBlock = some k ∨ V.ev.ownBlock = some k ∨ V.kv.ownBlock = some k) w w2 := by
    rw [ew2]
    exact Turned.setCell (Turned.setCell ((hT1.mono (fun k hk => .inl hk)).trans (hTa.mono (fun k hk => hk.elim (fun h => .inr (.inl h)) (fun h => .inr (.inr (.inl h)))))) (p := ⟨V.zb, 1, none⟩) (.inl (.inl rfl)) _) (p := ⟨V.zb, 2, none⟩) (.inl (.inl rfl)) _
  have hT3 : Turned (fun k => k = V.zb ∨ V.tv.ownBlock = some k ∨ V.wv.ownBlock = some k ∨ V.ev.ownBlock = some k ∨ V.kv.ownBlock = some k) w w3 := by
    rw [ew3]
    exact Turned.setCell (Turned.setCell (hTb.trans (hTc.mono (fun k hk => hk.elim (fun h => .inr (.inr (.inr (.inl h)))) (fun h => .inr (.inr (.inr (.inr h))))))) (p := ⟨V.zb, 3, none⟩) (.inl (.inl rfl)) _) (p := ⟨V.zb, 4, none⟩) (.inl (.inl rfl)) _
  have z1 := hT1.size
  have z2 := hTb.size
  have z12 : w1.heap.size ≤ w2.heap.size := by
    have := hTa.size
    rw [ew2]
    simpa [World.setCell] using this
  -- where the new rows lie
  have aA : O gA = 2 ∨ n0 ≤ gA := hA.atA.imp (fun e => h.o2 _ e) (fun e => by omega)
  have aB : O gB = 3 ∨ n0 ≤ gB := hA.atB.imp (fun e => h.o3 _ e) (fun e => by omega)
  have aC : O gC = 4 ∨ n0 ≤ gC := hC.atA.imp (fun e => h.o4 _ e) (fun e => by omega)
  have aD : O gD = 5 ∨ n0 ≤ gD := hC.atB.imp (fun e => h.o5 _ e) (fun e => by omega)
  have o1 := h.o1
  have lz := hlt.zb
  -- the new thing's blocks are none of the rows'
  have tl := lt_of_block htl
  have new : ∀ g : Nat, (∀ k, V.tv.ownBlock = some k ∨ V.wv.ownBlock = some k ∨ V.ev.ownBlock = some k ∨ V.kv.ownBlock = some k → k = g → g < n0) → ((V.tv.ownBlock = some g ∨ w1.heap.size ≤ g) ∨ (V.wv.ownBlock = some g ∨ w1.heap.size ≤ g) ∨ (V.ev.ownBlock = some g ∨ w1.heap.size ≤ g) ∨ (V.kv.ownBlock = some g ∨ w1.heap.size ≤ g)) → g ≠ t.b ∧ ∀ k, t.iv.ownBlock = some k → g ≠ k := fun g h0 hg => by
    have hiv2 := fun k hk => own_lt hiv (k := k) hk
    have key : g < n0 ∨ w1.heap.size ≤ g := by
      rcases hg with h' | h' | h' | h' <;> rcases h' with h' | h'
      · exact .inl (h0 g (.inl h') rfl)
      · exact .inr h'
      · exact .inl (h0 g (.inr (.inl h')) rfl)
      · exact .inr h'
      · exact .inl (h0 g (.inr (.inr (.inl h'))) rfl)
      · exact .inr h'
      · exact .inl (h0 g (.inr (.inr (.inr h'))) rfl)
      · exact .inr h'
    refine ⟨by omega, fun k hk => ?_⟩
    have := hiv2 k hk
    omega
  have low : ∀ g k, V.tv.ownBlock = some k ∨ V.wv.ownBlock = some k ∨ V.ev.ownBlock = some k ∨ V.kv.ownBlock = some k → k = g → g < n0 := fun g k hk e => by
    subst e
    rcases hk with hk | hk | hk | hk
    · exact hlt.tv _ hk
    · exact hlt.wv _ hk
    · exact hlt.ev _ hk
    · exact hlt.kv _ hk
  have nA := new gA (low gA) (.inl hA.atA)
  have nB := new gB (low gB) (.inr (.inl hA.atB))
  have nC := new gC (low gC) (.inr (.inr (.inl (hC.atA.imp id (fun e => by omega)))))
  have nD := new gD (low gD) (.inr (.inr (.inr (hC.atB.imp id (fun e => by omega)))))
  have lA := (own_lt hA.rowA (k := gA) rfl).2
  have lB := (own_lt hA.rowB (k := gB) rfl).2
  have eC : V.ev.ownBlock = some gC → gC < n0 ∧ O gC = 4 := fun e => ⟨hlt.ev _ e, h.o4 _ e⟩
  have eD : V.kv.ownBlock = some gD → gD < n0 ∧ O gD = 5 := fun e => ⟨hlt.kv _ e, h.o5 _ e⟩
  have sep : ∀ g x : Nat, (O g = x ∧ g < n0 ∨ w2.heap.size ≤ g) → ∀ g' y : Nat, (O g' = y ∨ n0 ≤ g') → g' < w2.heap.size → x ≠ y → g ≠ g' := fun g x h1 g' y h2 h3 h4 e => by
    subst e
    rcases h1 with ⟨h1, h5⟩ | h1
    · rcases h2 with h2 | h2 <;> omega
    · omega
  have hCA : gC ≠ gA := sep gC 4 (hC.atA.imp (fun e => ⟨(eC e).2, (eC e).1⟩) id) gA 2 aA lA (by decide)
  have hCB : gC ≠ gB := sep gC 4 (hC.atA.imp (fun e => ⟨(eC e).2, (eC e).1⟩) id) gB 3 aB lB (by decide)
  have hDA : gD ≠ gA := sep gD 5 (hC.atB.imp (fun e => ⟨(eD e).2, (eD e).1⟩) id) gA 2 aA lA (by decide)
  have hDB : gD ≠ gB := sep gD 5 (hC.atB.imp (fun e => ⟨(eD e).2, (eD e).1⟩) id) gB 3 aB lB (by decide)
  have hAB := hA.ne
  have hCD := hC.ne
  -- what O says of the elder blocks
  have far : ∀ k, k < n0 → O k ≠ 2 → O k ≠ 3 → O k ≠ 4 → O k ≠ 5 → k ≠ gA ∧ k ≠ gB ∧ k ≠ gC ∧ k ≠ gD := fun k hk h2 h3 h4 h5 => by
    refine ⟨?_, ?_, ?_, ?_⟩ <;> intro e <;> subst e <;> omega
  have tg : ∀ k, k < n0 → O k ≠ 2 → O k ≠ 3 → O k ≠ 4 → O k ≠ 5 → tagged O T.length t gA gB gC gD k = O k := fun k hk h2 h3 h4 h5 => by
    obtain ⟨e1, e2, e3, e4⟩ := far k hk h2 h3 h4 h5
    unfold tagged
    rw [if_neg (by omega), if_neg (fun e => by have := (own_lt hiv e).1; omega), if_neg e1, if_neg e2, if_neg e3, if_neg e4]
  have keep : ∀ k, k < w.heap.size → O k ≠ 1 ∨ n0 ≤ k → O k ≠ 2 ∨ n0 ≤ k → O k ≠ 3 ∨ n0 ≤ k → O k ≠ 4 ∨ n0 ≤ k → O k ≠ 5 ∨ n0 ≤ k → w3.heap[k]? = w.heap[k]? := fun k hk x1 x2 x3 x4 x5 => hT3.block k hk (fun hh => by
    rcases hh with e | e | e | e | e
    · subst e
      omega
    · have := h.o2 _ e
      have := hlt.tv _ e
      omega
    · have := h.o3 _ e
      have := hlt.wv _ e
      omega
    · have := h.o4 _ e
      have := hlt.ev _ e
      omega
    · have := h.o5 _ e
      have := hlt.kv _ e
      omega)
  have zA : V.zb ≠ gA := fun e => by rw [e] at o1; omega
  have zB : V.zb ≠ gB := fun e => by rw [e] at o1; omega
  have zC : V.zb ≠ gC := fun e => by rw [e] at o1; omega
  have zD : V.zb ≠ gD := fun e => by rw [e] at o1; omega
  have cA : ∀ g, g ≠ V.zb → g < w2.heap.size → V.ev.ownBlock ≠ some g → V.kv.ownBlock ≠ some g → w3.heap[g]? = w2.heap[g]? := fun g h1 h2 h3 h4 =>
    (f3 g h1).trans (hTc.block g h2 (fun hh => hh.elim h3 h4))
  refine ⟨{
    blk := ?_
    hr := h.hr.same fun k hk => ?_
    things := ?_
    wher := ?_
    here := ?_
    known := ?_
    thing := fun u hu => ?_
    o0 := fun k hk => ?_
    o1 := ?_
    o2 := fun k hk => ?_
    o3 := fun k hk => ?_
    o4 := fun k hk => ?_
    o5 := fun k hk => ?_
    ot := fun i u hi => ?_
    low := h.low
    et := ?_
    el := h.el }, hT3⟩
  · have b1 : w1.heap[V.zb]? = some (.cells (zblock V.hb V.tv V.wv V.ev V.kv { Z with top := top' }) 80 (0, 0)) := by
      rw [h1, blk_set (w := w.drew) h.blk _]
      rfl
    have b2 : wa.heap[V.zb]? = some (.cells (zblock V.hb V.tv V.wv V.ev V.kv { Z with top := top' }) 80 (0, 0)) := (hTa.block V.zb (by omega) (fun hh => by
      rcases hh with e | e
      · have := h.o2 _ e
        omega
      · have := h.o3 _ e
        omega)).trans b1
    have b3 : w2.heap[V.zb]? = some (.cells (((zblock V.hb V.tv V.wv V.ev V.kv { Z with top := top' }).setIfInBounds 1 (.slice (some ⟨gA, 0, none⟩) (T.length + 1) kA)).setIfInBounds 2 (.slice (some ⟨gB, 0, none⟩) (T.length + 1) kB)) 80 (0, 0)) := by
      rw [ew2]
      exact blk_set (blk_set b2 _) _
    have b4 := (hTc.block V.zb (by omega) (fun hh => by
      rcases hh with e | e
      · have := h.o4 _ e
        omega
      · have := h.o5 _ e
        omega)).trans b3
    rw [ew3]
    exact blk_set (blk_set b4 _) _
  · have e0 := h.o0 k hk
    exact keep k (h.hr.lt hk) (.inl (by omega)) (.inl (by omega)) (.inl (by omega)) (.inl (by omega)) (.inl (by omega))
  · rw [List.length_append, List.map_append]
    exact ownsRow_same hA.rowA (fun k hk => by
      have e : gA = k := Option.some.inj hk
      subst e
      exact cA gA (Ne.symm zA) lA (fun e => by have := h.o4 _ e; have := hlt.ev _ e; omega) (fun e => by have := h.o5 _ e; have := hlt.kv _ e; omega))
  · have hw : wVals (T ++ [t]) = wVals T ++ vlVals t.wv := by
      unfold wVals
      rw [List.flatMap_append]
      simp
    rw [List.length_append, hw]
    exact ownsRow_same hA.rowB (fun k hk => by
      have e : gB = k := Option.some.inj hk
      subst e
      exact cA gB (Ne.symm zB) lB (fun e => by have := h.o4 _ e; have := hlt.ev _ e; omega) (fun e => by have := h.o5 _ e; have := hlt.kv _ e; omega))
  · rw [List.length_append, List.map_append]
    exact hC.rowA
  · rw [List.length_append, List.map_append]
    exact hC.rowB
  · rcases List.mem_append.mp hu with hu | hu
    · obtain ⟨i, hi⟩ := List.getElem?_of_mem hu
      obtain ⟨e1, _, e2⟩ := h.ot i u hi
      refine ⟨(keep u.b (h.tlt hu) (.inl (by omega)) (.inl (by omega)) (.inl (by omega)) (.inl (by omega)) (.inl (by omega))).trans (h.thing u hu).1, ownsRow_same (h.thing u hu).2 fun k hk => ?_⟩
      have e3 := e2 k hk
      exact keep k (own_lt (h.thing u hu).2 hk).2 (.inl (by omega)) (.inl (by omega)) (.inl (by omega)) (.inl (by omega)) (.inl (by omega))
    · rw [List.mem_singleton.mp hu]
      refine ⟨(keep t.b tl (.inr htb) (.inr htb) (.inr htb) (.inr htb) (.inr htb)).trans htl, ownsRow_same (row_low hiv hBn) fun k hk => ?_⟩
      have e3 := own_lt hiv hk
      exact keep k e3.2 (.inr e3.1) (.inr e3.1) (.inr e3.1) (.inr e3.1) (.inr e3.1)
  · have e0 := h.o0 k hk
    rw [tg k (hlt.heap k hk) (by omega) (by omega) (by omega) (by omega)]
    exact e0
  · show tagged O T.length t gA gB gC gD V.zb = 1
    rw [tg V.zb lz (by omega) (by omega) (by omega) (by omega)]
    exact o1
  · have e : gA = k := Option.some.inj hk
    subst e
    unfold tagged
    rw [if_neg nA.1, if_neg (fun e => nA.2 _ e rfl), if_pos rfl]
  · have e : gB = k := Option.some.inj hk
    subst e
    unfold tagged
    rw [if_neg nB.1, if_neg (fun e => nB.2 _ e rfl), if_neg (Ne.symm hAB), if_pos rfl]
  · have e : gC = k := Option.some.inj hk
    subst e
    unfold tagged
    rw [if_neg nC.1, if_neg (fun e => nC.2 _ e rfl), if_neg hCA, if_neg hCB, if_pos rfl]
  · have e : gD = k := Option.some.inj hk
    subst e
    unfold tagged
    rw [if_neg nD.1, if_neg (fun e => nD.2 _ e rfl), if_neg hDA, if_neg hDB, if_neg (Ne.symm hCD), if_pos rfl]
  · by_cases hil : i < T.length
    · rw [List.getElem?_append_left hil] at hi
      obtain ⟨e1, e2, e3⟩ := h.ot i u hi
      have hu := List.mem_of_getElem? hi
      refine ⟨?_, e2, fun k hk => ?_⟩
      · rw [tg u.b (hlt.th u hu).1 (by omega) (by omega) (by omega) (by omega)]
        exact e1
      · have e4 := e3 k hk
        rw [tg k ((hlt.th u hu).2 k hk) (by omega) (by omega) (by omega) (by omega)]
        exact e4
    · rw [List.getElem?_append_right (by omega)] at hi
      have hi0 : i - T.length = 0 := by
        have := (List.getElem?_eq_some_iff.1 hi).1
        simp at this
        omega
      rw [hi0] at hi
      have hu : t = u := by simpa using hi
      subst hu
      have hiT : i = T.length := by omega
      subst hiT
      refine ⟨by unfold tagged; rw [if_pos rfl], by omega, fun k hk => ?_⟩
      unfold tagged
      rw [if_neg (hti k hk), if_pos hk]
  · have he := h.el
    have hb : B ≤ V.zb := h.low
    exact (World.cell?_of_block (a := ⟨1, 0, none⟩) (hT3.block _ h.etlt (fun hh => by
      rcases hh with e | e | e | e | e
      · exact absurd hb (Nat.not_le.mpr (e ▸ he))
      · exact absurd (own_lt h.things e).1 (Nat.not_le.mpr he)
      · exact absurd (own_lt h.wher e).1 (Nat.not_le.mpr he)
      · exact absurd (own_lt h.here e).1 (Nat.not_le.mpr he)
      · exact absurd (own_lt h.known e).1 (Nat.not_le.mpr he)))).trans h.et
end Go.Proofs.YthbkklnahhdgcaaDoor.PlV

namespace Go.Proofs.YthbkklnahhdgcaaDoor.PlO
open Go Go.Proofs Go.RowKit Go.Maps Go.Proofs.YthbkklnahhdgcaaDoor.Lib HeapR HeapB HeapC HeapD HeapG HeapH ErrC ChA ChT ChCa ChCc ChE ChH ChI ChL ChN ChO ChZ PlC PlH PlS PlT PlZ PlU PlM PlN PlQ PlV PlB ChJ ChW

variable {w w' : World} {O : Nat → Nat} {B : Nat} {V : Zv} {H H' : HS} {T : List Th} {Z : Zn} {nu ol : List Ob} {loc : Nat → Ob}
end Go.Proofs.YthbkklnahhdgcaaDoor.PlO
namespace Go.Proofs.YthbkklnahhdgcaaDoor.PlZ
open Go Go.Proofs Go.RowKit Go.Maps Go.Proofs.YthbkklnahhdgcaaDoor.Lib HeapR HeapB HeapC HeapD HeapG HeapH ErrC ChA ChT ChCa ChCc ChE ChH ChI ChL ChN ChO ChZ PlC PlH PlS PlT PlZ PlU PlM PlN PlQ PlV PlB ChJ ChW

open Go.Proofs.YthbkklnahhdgcaaDoor.PlO
variable {w w' : World} {O : Nat → Nat} {B : Nat} {V : Zv} {H H' : HS} {T : List Th} {Z : Zn} {nu ol : List Ob} {loc : Nat → Ob}
/-- The heap turned, at the places where it was. -/
theorem ZR.turnHeap (h : ZR w O B V H T Z) (hT : Turned V.heap w w') (hr : HR w' V.hb V.nb V.mb V.ov V.rv B H') : ZR w' O B V H' T Z := by
  have keep : ∀ k, k < w.heap.size → O k ≠ 0 → w'.heap[k]? = w.heap[k]? := fun k hk ho => hT.block k hk (fun hh => ho (h.o0 k hh))
  have o1 := h.o1
  exact { h with
    blk := (keep _ h.zlt (by omega)).trans h.blk
    hr := hr
    things := ownsRow_same h.things fun k hk => keep k (own_lt h.things hk).2 (by have := h.o2 k hk; omega)
    wher := ownsRow_same h.wher fun k hk => keep k (own_lt h.wher hk).2 (by have := h.o3 k hk; omega)
    here := ownsRow_same h.here fun k hk => keep k (own_lt h.here hk).2 (by have := h.o4 k hk; omega)
    known := ownsRow_same h.known fun k hk => keep k (own_lt h.known hk).2 (by have := h.o5 k hk; omega)
    thing := fun t ht => by
      obtain ⟨i, hi⟩ := List.getElem?_of_mem ht
      obtain ⟨e1, _, e2⟩ := h.ot i t hi
      exact ⟨(keep _ (h.tlt ht) (by omega)).trans (h.thing t ht).1, ownsRow_same (h.thing t ht).2 fun k hk => keep k (own_lt (h.thing t ht).2 hk).2 (by have := e2 k hk; omega)⟩
    et := (World.cell?_of_block (a := ⟨1, 0, none⟩) (hT.block _ h.etlt (fun hh => absurd (h.hr.ge hh) (Nat.not_le.mpr h.el)))).trans h.et }
end Go.Proofs.YthbkklnahhdgcaaDoor.PlZ
namespace Go.Proofs.YthbkklnahhdgcaaDoor.PlO
open Go Go.Proofs Go.RowKit Go.Maps Go.Proofs.YthbkklnahhdgcaaDoor.Lib HeapR HeapB HeapC HeapD HeapG HeapH ErrC ChA ChT ChCa ChCc ChE ChH ChI ChL ChN ChO ChZ PlC PlH PlS PlT PlZ PlU PlM PlN PlQ PlV PlB ChJ ChW

variable {w w' : World} {O : Nat → Nat} {B : Nat} {V : Zv} {H H' : HS} {T : List Th} {Z : Zn} {nu ol : List Ob} {loc : Nat → Ob}
theorem int_made (s : Nat) : madeCells (Value.int .i64 0).cells s = (List.replicate s (Value.int .i64 0)).toArray := by
  apply Array.ext
  · simp [size_madeCells]
  · intro i h1 h2
    simp [madeCells, Value.cells, Nat.mod_one]
theorem two_keep {w0 w' : World} {B0 zb iA iB eA sA eB sB : Nat} {vA vB : Value} {n m : Nat} {xsA xsB : List Value} {gA cA gB cB : Nat} (h : Two w0 B0 zb iA iB eA sA eB sB vA vB n m xsA xsB gA cA gB cB w') {k : Nat} (hk : k < w0.heap.size) (hz : k ≠ zb) (h1 : vA.ownBlock ≠ some k) (h2 : vB.ownBlock ≠ some k) : w'.heap[k]? = w0.heap[k]? := by
  obtain ⟨wk, hT, e⟩ := h.wk
  rw [e]
  exact (blk_ne hz).trans ((blk_ne hz).trans (hT.block k hk (fun hh => hh.elim h1 h2)))
theorem two_cell {w0 w' : World} {B0 zb iA iB eA sA eB sB : Nat} {vA vB : Value} {n m : Nat} {xsA xsB : List Value} {gA cA gB cB : Nat} (h : Two w0 B0 zb iA iB eA sA eB sB vA vB n m xsA xsB gA cA gB cB w') (hz : zb < w0.heap.size) (h1 : vA.ownBlock ≠ some zb) (h2 : vB.ownBlock ≠ some zb) {i : Nat} (hA : i ≠ iA) (hB : i ≠ iB) : w'.cell? ⟨zb, i, none⟩ = w0.cell? ⟨zb, i, none⟩ := by
  obtain ⟨wk, hT, e⟩ := h.wk
  rw [e]
  exact (cell_set_ne (fun e => hB (congrArg Addr.off e))).trans ((cell_set_ne (fun e => hA (congrArg Addr.off e))).trans (hT.cell (p := ⟨zb, i, none⟩) hz (fun hh => hh.elim h1 h2)))
theorem two_frozen {w0 w' : World} {B0 zb iA iB eA sA eB sB : Nat} {vA vB : Value} {n m : Nat} {xsA xsB : List Value} {gA cA gB cB : Nat} (h : Two w0 B0 zb iA iB eA sA eB sB vA vB n m xsA xsB gA cA gB cB w') (hz : zb < w0.heap.size) (h1 : vA.ownBlock ≠ some zb) (h2 : vB.ownBlock ≠ some zb) (i : Nat) : w'.frozen? ⟨zb, i, none⟩ = w0.frozen? ⟨zb, i, none⟩ := by
  obtain ⟨wk, hT, e⟩ := h.wk
  rw [e]
  exact frozen_set.trans (frozen_set.trans (World.frozen?_of_block (a := ⟨zb, i, none⟩) (hT.block zb hz (fun hh => hh.elim h1 h2))))
theorem two_size {w0 w' : World} {B0 zb iA iB eA sA eB sB : Nat} {vA vB : Value} {n m : Nat} {xsA xsB : List Value} {gA cA gB cB : Nat} (h : Two w0 B0 zb iA iB eA sA eB sB vA vB n m xsA xsB gA cA gB cB w') : w0.heap.size ≤ w'.heap.size := by
  obtain ⟨wk, hT, e⟩ := h.wk
  rw [e]
  simpa [World.setCell] using hT.size
end Go.Proofs.YthbkklnahhdgcaaDoor.PlO
namespace Go.Proofs.YthbkklnahhdgcaaDoor.PlZ
open Go Go.Proofs Go.RowKit Go.Maps Go.Proofs.YthbkklnahhdgcaaDoor.Lib HeapR HeapB HeapC HeapD HeapG HeapH ErrC ChA ChT ChCa ChCc ChE ChH ChI ChL ChN ChO ChZ PlC PlH PlS PlT PlZ PlU PlM PlN PlQ PlV PlB ChJ ChW

open Go.Proofs.YthbkklnahhdgcaaDoor.PlO
variable {w w' : World} {O : Nat → Nat} {B : Nat} {V : Zv} {H H' : HS} {T : List Th} {Z : Zn} {nu ol : List Ob} {loc : Nat → Ob}
/-- The zoo's number of cells in the nursery was set. -/
theorem ZR.setTop (h : ZR w O B V H T Z) (x : Int) : ZR (w.drew.setCell ⟨V.zb, 7, none⟩ (.int .i64 x)) O B V H T { Z with top := x } := by
  have keep : ∀ k, O k ≠ 1 → (w.drew.setCell ⟨V.zb, 7, none⟩ (.int .i64 x)).heap[k]? = w.heap[k]? := fun k ho => blk_ne (w := w.drew) (p := ⟨V.zb, 7, none⟩) (fun e => ho (e ▸ h.o1))
  exact { h with
    blk := blk_set (w := w.drew) h.blk _
    hr := h.hr.same fun k hk => keep k (by have := h.o0 k hk; omega)
    things := ownsRow_same h.things fun k hk => keep k (by have := h.o2 k hk; omega)
    wher := ownsRow_same h.wher fun k hk => keep k (by have := h.o3 k hk; omega)
    here := ownsRow_same h.here fun k hk => keep k (by have := h.o4 k hk; omega)
    known := ownsRow_same h.known fun k hk => keep k (by have := h.o5 k hk; omega)
    thing := fun t ht => by
      obtain ⟨i, hi⟩ := List.getElem?_of_mem ht
      obtain ⟨e1, _, e2⟩ := h.ot i t hi
      exact ⟨(keep _ (by omega)).trans (h.thing t ht).1, ownsRow_same (h.thing t ht).2 fun k hk => keep k (by have := e2 k hk; omega)⟩
    et := (World.cell?_of_block (a := ⟨1, 0, none⟩) (blk_ne (w := w.drew) (p := ⟨V.zb, 7, none⟩) (fun e => by
      have e2 : 1 = V.zb := e
      have h3 := h.low
      rw [← e2] at h3
      exact absurd h3 (Nat.not_le.mpr h.el)))).trans h.et }
end Go.Proofs.YthbkklnahhdgcaaDoor.PlZ
namespace Go.Proofs.YthbkklnahhdgcaaDoor.PlO
open Go Go.Proofs Go.RowKit Go.Maps Go.Proofs.YthbkklnahhdgcaaDoor.Lib HeapR HeapB HeapC HeapD HeapG HeapH ErrC ChA ChT ChCa ChCc ChE ChH ChI ChL ChN ChO ChZ PlC PlH PlS PlT PlZ PlU PlM PlN PlQ PlV PlB ChJ ChW

variable {w w' : World} {O : Nat → Nat} {B : Nat} {V : Zv} {H H' : HS} {T : List Th} {Z : Zn} {nu ol : List Ob} {loc : Nat → Ob}
end Go.Proofs.YthbkklnahhdgcaaDoor.PlO
namespace Go.Proofs.YthbkklnahhdgcaaDoor.PlZ
open Go Go.Proofs Go.RowKit Go.Maps Go.Proofs.YthbkklnahhdgcaaDoor.Lib HeapR HeapB HeapC HeapD HeapG HeapH ErrC ChA ChT ChCa ChCc ChE ChH ChI ChL ChN ChO ChZ PlC PlH PlS PlT PlZ PlU PlM PlN PlQ PlV PlB ChJ ChW

open Go.Proofs.YthbkklnahhdgcaaDoor.PlO
variable {w w' : World} {O : Nat → Nat} {B : Nat} {V : Zv} {H H' : HS} {T : List Th} {Z : Zn} {nu ol : List Ob} {loc : Nat → Ob}
/-- What turned is none of the zoo's. -/
theorem ZR.apart {n0 : Nat} (h : ZR w O B V H T Z) (hl : ZLt V T n0) (hn : n0 ≤ w.heap.size) (hB : B ≤ n0) (hT : Turned (fun k => n0 ≤ k) w w') : ZR w' O B V H T Z := by
  have keep : ∀ k, k < n0 → w'.heap[k]? = w.heap[k]? := fun k hk => hT.block k (by omega) (fun hh => by omega)
  exact { h with
    blk := (keep _ hl.zb).trans h.blk
    hr := h.hr.same fun k hk => keep k (hl.heap k hk)
    things := ownsRow_same h.things fun k hk => keep k (hl.tv k hk)
    wher := ownsRow_same h.wher fun k hk => keep k (hl.wv k hk)
    here := ownsRow_same h.here fun k hk => keep k (hl.ev k hk)
    known := ownsRow_same h.known fun k hk => keep k (hl.kv k hk)
    thing := fun t ht => ⟨(keep _ (hl.th t ht).1).trans (h.thing t ht).1, ownsRow_same (h.thing t ht).2 fun k hk => keep k ((hl.th t ht).2 k hk)⟩
    et := (World.cell?_of_block (a := ⟨1, 0, none⟩) (keep _ (Nat.lt_of_lt_of_le h.el hB))).trans h.et }
end Go.Proofs.YthbkklnahhdgcaaDoor.PlZ
namespace Go.Proofs.YthbkklnahhdgcaaDoor.PlO
open Go Go.Proofs Go.RowKit Go.Maps Go.Proofs.YthbkklnahhdgcaaDoor.Lib HeapR HeapB HeapC HeapD HeapG HeapH ErrC ChA ChT ChCa ChCc ChE ChH ChI ChL ChN ChO ChZ PlC PlH PlS PlT PlZ PlU PlM PlN PlQ PlV PlB ChJ ChW

variable {w w' : World} {O : Nat → Nat} {B : Nat} {V : Zv} {H H' : HS} {T : List Th} {Z : Zn} {nu ol : List Ob} {loc : Nat → Ob}
/-- The thing that is made. -/
def mkTh (b0 : Nat) (a b id : Int) (s bI ad : Nat) : Th := ⟨b0, a, b, id, false, List.replicate s 0, .slice (some ⟨bI, 0, none⟩) s s, true, true, ⟨4, (ad : Int), ByteArray.empty⟩⟩

theorem makes_ok (h : ZR w O B V H T Z) (hz : ZI H nu ol T Z loc) (what a b bits : Int) (s : Nat) (h1 : 1 ≤ a) (h4 : a ≤ 4) (hs : s ≤ 1000) (hf : total nu + (1 + s) ≤ H.room) (hTl : T.length ≤ 1000) :
    Calls Tryd.prog 71 #[.pointer (some ⟨V.zb, 0, none⟩), stepV what a b (s : Int) bits] w fun e w' => e = .returned (.bool true) ∧ ∃ (O' : Nat → Nat) (V' : Zv) (b0 bI : Nat),
      ZR w' O' B V' (H.alloc a b s) (T ++ [mkTh b0 a b (if a = 4 then 0 else cntId T T.length + 1) s bI H.top]) { Z with top := Z.top + (1 + (s : Int)) } ∧ (V'.zb, V'.hb) = (V.zb, V.hb) ∧ HI (H.alloc a b s) (nu ++ [newOb H a b s]) ol ∧ Turned (fun k => B ≤ k) w w' := by
  obtain ⟨zb, hb, nb, mb, ov, rv, tv, wv, ev, kv⟩ := V
  obtain ⟨oaT, cT, hv1⟩ := row_form h.things
  obtain ⟨oaW, cW, hv2⟩ := row_form h.wher
  obtain ⟨oaE, cE, hv3⟩ := row_form h.here
  obtain ⟨oaK, cK, hv4⟩ := row_form h.known
  simp only at hv1 hv2 hv3 hv4
  subst hv1 hv2 hv3 hv4
  have z0 : w.cell? ⟨zb, 0, none⟩ = some (.pointer (some ⟨hb, 0, none⟩)) := h.cz rfl
  have hzl : zb < w.heap.size := h.zlt
  have hb1 : Below w.heap.size w (w.alloc (stepCells what a b (s : Int) bits)) := (Below.refl _ w).alloc (Nat.le_refl _) _
  have hZ1 := (h.below hb1)
  have hlast := heap_alloc_last w (stepCells what a b (s : Int) bits)
  have hsl : w.heap.size < (w.alloc (stepCells what a b (s : Int) bits)).heap.size := by simp
  have htop := hz.hi.top
  have hztop := hz.top
  have hzroom := hz.room
  have hrr := h.hr.rr
  have hnx : H.next ≤ big := by
    have h1 := hz.next
    have h2 := List.countP_le_length (p := ided) (l := T)
    unfold big
    omega
  have hA := alloc_ob (w := (w.alloc (stepCells what a b (s : Int) bits)).drew) (hZ1.hr.drewN 1) hz.hi a b s h1 h4 hs hf hnx
  have hheap : ∀ k, (k = hb ∨ k = nb ∨ k = mb) → k < w.heap.size ∧ O k = 0 := fun k hk => by
    have h2 : Owns hb nb mb ov rv k := by
      rcases hk with e | e | e
      · exact .inl e
      · exact .inr (.inl e)
      · exact .inr (.inr (.inl e))
    exact ⟨h.hr.lt h2, h.o0 k h2⟩
  have ho1 : O zb = 1 := h.o1
  have g1 : decide (a < 1) = false := by simpa using h1
  have g2 : decide (4 < a) = false := by simpa using h4
  have g3 : decide ((s : Int) < 0) = false := by simp
  have g4 : decide (1000 < (s : Int)) = false := by simp; omega
  have g5 : decide ((H.room : Int) < (H.top : Int) + 1 + s) = false := by simp; omega
  have k1 : IntKind.i64.wrap ((H.top : Int) + 1) = (H.top : Int) + 1 := IntWalk.i64_in _ (by omega)
  have k2 : IntKind.i64.wrap ((H.top : Int) + 1 + (s : Int)) = (H.top : Int) + 1 + (s : Int) := IntWalk.i64_in _ (by omega)
  have q0 : (w.alloc (stepCells what a b (s : Int) bits)).cell? ⟨zb, 0, none⟩ = some (.pointer (some ⟨hb, 0, none⟩)) := alloc_cell z0 _
  have q1 : (w.alloc (stepCells what a b (s : Int) bits)).cell? ⟨w.heap.size, 1, none⟩ = some (.int .i64 a) := cell_of_block hlast rfl
  have q2 : (w.alloc (stepCells what a b (s : Int) bits)).cell? ⟨w.heap.size, 2, none⟩ = some (.int .i64 b) := cell_of_block hlast rfl
  have q3 : (w.alloc (stepCells what a b (s : Int) bits)).cell? ⟨w.heap.size, 3, none⟩ = some (.int .i64 (s : Int)) := cell_of_block hlast rfl
  have hTw : Turned (fun k => B ≤ k) w (w.alloc (stepCells what a b (s : Int) bits)) := Turned.of_below _ hb1
  unfold stepV
  unfold stepCells at q0 q1 q2 q3 hA hZ1 hTw hsl
  have A0 := Lib.hid h
  have A1 := Lib.hid hz
  have A2 := Lib.hid hheap
  have A3 := Lib.hid hZ1
  have A4 := Lib.hid hTw
  have A8 := Lib.hid htop
  have A9 := Lib.hid hztop
  have A10 := Lib.hid hzroom
  clear h hz hlast z0 hb1 hheap hZ1 hTw hnx hf htop hztop hzroom
  go_enter Tryd.func71, Tryd.ntmps71
  go_wp2_with fail
  generalize w.alloc (.cells #[.int .i64 what, .int .i64 a, .int .i64 b, .int .i64 (s : Int), .int .u64 bits] 84 (0, 0)) = w1 at *
  refine RegU.begin (S := fun wz => wz.cell? ⟨zb, 0, none⟩ = some (.pointer (some ⟨hb, 0, none⟩)) ∧ wz.cell? ⟨w.heap.size, 1, none⟩ = some (.int .i64 a) ∧ wz.cell? ⟨w.heap.size, 2, none⟩ = some (.int .i64 b) ∧ wz.cell? ⟨w.heap.size, 3, none⟩ = some (.int .i64 (s : Int))) (N := [4, 5, 6, 7, 8, 9, 13, 14]) (by kernel_rfl) ?_ (fun hHeld => ?_)
  · (try dsimp only); first | assumption | go_keep
  refine RegU.tk [1, 2, 3, 10, 11, 12, 13, 14, 15] 0 ?_
  refine RegU.tk [2, 3, 10, 11, 12, 13, 14, 15] 1 ?_
  refine RegU.tk [3, 10, 11, 12, 13, 14, 15] 2 ?_
  refine RegU.tk [10, 11, 12, 13, 14, 15] 3 ?_
  refine RegU.tk [5, 10, 11, 12, 13, 14, 15] 4 ?_
  refine RegU.tk [10, 11, 12, 13, 14, 15] 5 ?_
  refine RegU.tk [7, 10, 11, 12, 13, 14, 15] 6 ?_
  refine RegU.tk [10, 11, 12, 13, 14, 15] 7 ?_
  refine RegU.tk [9, 10, 11, 12, 13, 14, 15] 8 ?_
  refine RegU.tk [10, 11, 12, 13, 14, 15] 9 ?_
  refine RegU.one (i := 10) (by kernel_rfl) rfl (fun K hK => ?_)
  go_simp
  refine hA.mono ?_
  rintro e w2 ⟨rfl, hr2, hi2, hT2⟩
  have hsl2 := hT2.size
  have r0 : w2.cell? ⟨zb, 0, none⟩ = some (.pointer (some ⟨hb, 0, none⟩)) := (hT2.cell (p := ⟨zb, 0, none⟩) (a := w1.drew) (Nat.lt_of_lt_of_le hzl (Nat.le_of_lt hsl)) (fun hh => by have := (A2.out _ hh).2; simp only at this; omega)).trans q0
  have r1 : w2.cell? ⟨w.heap.size, 1, none⟩ = some (.int .i64 a) := (hT2.cell (p := ⟨w.heap.size, 1, none⟩) (a := w1.drew) hsl (fun hh => absurd (A2.out _ hh).1 (Nat.lt_irrefl _))).trans q1
  have r2 : w2.cell? ⟨w.heap.size, 2, none⟩ = some (.int .i64 b) := (hT2.cell (p := ⟨w.heap.size, 2, none⟩) (a := w1.drew) hsl (fun hh => absurd (A2.out _ hh).1 (Nat.lt_irrefl _))).trans q2
  have r3 : w2.cell? ⟨w.heap.size, 3, none⟩ = some (.int .i64 (s : Int)) := (hT2.cell (p := ⟨w.heap.size, 3, none⟩) (a := w1.drew) hsl (fun hh => absurd (A2.out _ hh).1 (Nat.lt_irrefl _))).trans q3
  refine hK.out _ _ ⟨r0, r1, r2, r3⟩ (fun hHeld => ?_)
  clear hK K
  try simp only [Act.put, List.setIfInBounds_toArray, List.set_cons_zero, List.set_cons_succ]
  refine RegU.tk [12, 13, 14, 15] 11 ?_
  refine RegU.tk [14, 15] 12 ?_
  refine RegU.tk [15] 13 ?_
  refine RegU.one (i := 14) (by kernel_rfl) rfl (fun K hK => ?_)
  go_simp
  refine hK.out _ _ (by assumption) (fun hHeld => ?_)
  clear hK K
  try simp only [Act.put, List.setIfInBounds_toArray, List.set_cons_zero, List.set_cons_succ]
  refine RegU.rest [15] [_] (by kernel_rfl) rfl ?_
  have hZ2 : ZR w2 O B ⟨zb, hb, nb, mb, ov, rv, .slice oaT T.length cT, .slice oaW T.length cW, .slice oaE T.length cE, .slice oaK T.length cK⟩ (H.alloc a b s) T Z := (A3.out.drewN 1).turnHeap (w := w1.drew) (hT2.mono (fun k hk => by
    rcases hk with e | e | e
    · exact .inl e
    · exact .inr (.inl e)
    · exact .inr (.inr (.inl e)))) hr2
  have r6 : w2.cell? ⟨zb, 6, none⟩ = some (.int .i64 (H.room : Int)) := by rw [← A10.out]; exact hZ2.cz rfl
  have r7 : w2.cell? ⟨zb, 7, none⟩ = some (.int .i64 (H.top : Int)) := by rw [A8.out, ← A9.out]; exact hZ2.cz rfl
  have hTw2 : Turned (fun k => B ≤ k) w w2 := (A4.out.drew).trans (hT2.mono (fun k hk => by
    have h2 : Owns hb nb mb ov rv k := by
      rcases hk with e | e | e
      · exact .inl e
      · exact .inr (.inl e)
      · exact .inr (.inr (.inl e))
    exact A0.out.hr.ge h2))
  have hsl3 : w.heap.size < w2.heap.size := Nat.lt_of_lt_of_le hsl hsl2
  have A5 := Lib.hid hZ2
  have A6 := Lib.hid hTw2
  have A7 := Lib.hid hi2
  clear hZ2 hTw2 hr2 hi2 hT2 hA q0 q1 q2 q3 hHeld hsl2 r0
  go_wp2_with fail
  go_quiet (fail)
  go_wp2_with fail
  have s1 : (w2.drewN nq).cell? ⟨w.heap.size, 1, none⟩ = some (.int .i64 a) := r1
  have s2 : (w2.drewN nq).cell? ⟨w.heap.size, 2, none⟩ = some (.int .i64 b) := r2
  have s3 : (w2.drewN nq).cell? ⟨w.heap.size, 3, none⟩ = some (.int .i64 (s : Int)) := r3
  have s7 : (w2.drewN nq).cell? ⟨zb, 7, none⟩ = some (.int .i64 (H.top : Int)) := r7
  have hsl4 : w.heap.size < (w2.drewN nq).heap.size := hsl3
  have B5 := Lib.hid (A5.out.drewN nq)
  have B6 := Lib.hid (A6.out.drewN nq)
  clear r1 r2 r3 r6 r7 hsl3 g1 g2 g3 g4 g5 k1 k2 hsl
  generalize w2.drewN nq = w3 at *
  obtain ⟨iI, hiI, hI0, hI1, hI2⟩ := info_parts infoInt
  have hmk : ∀ u : World, (Instr.makeSlice 52 (.int .i64 (s : Int)) (.int .i64 (s : Int))).run Tryd.prog u = .ok (.slice (some ⟨u.heap.size, 0, none⟩) s s) (u.alloc (.cells (List.replicate s (Value.int .i64 0)).toArray 3)) := fun u => by
    have h := run_make (P := Tryd.prog) u 52 3 iI _ Tryd.underlying52 hiI hI0 .i64 .i64 (s : Int) (s : Int) (by omega) (Int.le_refl _) (by rw [hI2]; omega) (by omega)
    rw [Int.toNat_natCast, hI1, Nat.mul_one, int_made] at h
    exact h
  refine RegU.begin (S := fun wz => wz.cell? ⟨w.heap.size, 1, none⟩ = some (.int .i64 a) ∧ wz.cell? ⟨w.heap.size, 2, none⟩ = some (.int .i64 b) ∧ wz.cell? ⟨w.heap.size, 3, none⟩ = some (.int .i64 (s : Int))) (N := [2, 3, 4, 5, 6]) (by kernel_rfl) ?_ (fun hHeld => ?_)
  · (try dsimp only); first | assumption | go_keep
  refine RegU.tk [1, 7, 8, 9] 0 ?_
  refine RegU.tk [7, 8, 9] 1 ?_
  refine RegU.tk [3, 7, 8, 9] 2 ?_
  refine RegU.tk [7, 8, 9] 3 ?_
  refine RegU.tk [5, 6, 7, 8, 9] 4 ?_
  refine RegU.tk [6, 7, 8, 9] 5 ?_
  refine RegU.one (i := 6) (by kernel_rfl) rfl (fun K hK => ?_)
  go_simp
  refine hK.out _ _ ⟨alloc_cell s1 _, alloc_cell s2 _, alloc_cell s3 _⟩ (fun hHeld => ?_)
  clear hK K
  try simp only [Act.put, List.setIfInBounds_toArray, List.set_cons_zero, List.set_cons_succ]
  refine RegU.tk [8, 9] 7 ?_
  refine RegU.one (i := 8) (by kernel_rfl) rfl (fun K hK => ?_)
  go_simp
  refine hK.out _ _ ⟨alloc_cell (alloc_cell s1 _) _, alloc_cell (alloc_cell s2 _) _, alloc_cell (alloc_cell s3 _) _⟩ (fun hHeld => ?_)
  clear hK K
  try simp only [Act.put, List.setIfInBounds_toArray, List.set_cons_zero, List.set_cons_succ]
  refine RegU.rest [9] [_] (by kernel_rfl) rfl ?_
  have hbT : Below w3.heap.size w3 (((w3.alloc (.cells (Array.replicate s (Value.int .i64 0)) 3 (0, 0))).alloc (.cells #[.int .i64 a, .int .i64 b, .int .i64 0, .bool false, .slice (some ⟨w3.heap.size, 0, none⟩) s s] 186 (0, 0))).drew) := by
    have h1 := (Below.refl w3.heap.size w3).alloc (Nat.le_refl _) (.cells (Array.replicate s (Value.int .i64 0)) 3 (0, 0))
    exact (h1.alloc h1.size _).drew
  have hbI : (((w3.alloc (.cells (Array.replicate s (Value.int .i64 0)) 3 (0, 0))).alloc (.cells #[.int .i64 a, .int .i64 b, .int .i64 0, .bool false, .slice (some ⟨w3.heap.size, 0, none⟩) s s] 186 (0, 0))).drew).heap[w3.heap.size]? = some (.cells (Array.replicate s (Value.int .i64 0)) 3 (0, 0)) :=
    (Below.heap_alloc _ _ _ (by simp)).trans (heap_alloc_last w3 _)
  have hbB : (((w3.alloc (.cells (Array.replicate s (Value.int .i64 0)) 3 (0, 0))).alloc (.cells #[.int .i64 a, .int .i64 b, .int .i64 0, .bool false, .slice (some ⟨w3.heap.size, 0, none⟩) s s] 186 (0, 0))).drew).heap[w3.heap.size + 1]? = some (.cells #[.int .i64 a, .int .i64 b, .int .i64 0, .bool false, .slice (some ⟨w3.heap.size, 0, none⟩) s s] 186 (0, 0)) :=
    heap_alloc_at (w := w3.alloc (.cells (Array.replicate s (Value.int .i64 0)) 3 (0, 0))) (by simp) (.cells #[.int .i64 a, .int .i64 b, .int .i64 0, .bool false, .slice (some ⟨w3.heap.size, 0, none⟩) s s] 186 (0, 0))
  generalize (((w3.alloc (.cells (Array.replicate s (Value.int .i64 0)) 3 (0, 0))).alloc (.cells #[.int .i64 a, .int .i64 b, .int .i64 0, .bool false, .slice (some ⟨w3.heap.size, 0, none⟩) s s] 186 (0, 0))).drew) = w5 at *
  have t1 : w5.cell? ⟨w.heap.size, 1, none⟩ = some (.int .i64 a) := (hbT.cell (p := ⟨w.heap.size, 1, none⟩) hsl4).trans s1
  have t3 : w5.cell? ⟨w.heap.size, 3, none⟩ = some (.int .i64 (s : Int)) := (hbT.cell (p := ⟨w.heap.size, 3, none⟩) hsl4).trans s3
  have C5 := Lib.hid (B5.out.below hbT)
  have C6 := Lib.hid (B6.out.trans (Turned.of_below _ hbT))
  have C7 := Lib.hid hbI
  have C8 := Lib.hid (ZR.allLt B5.out)
  have C9 := Lib.hid hbT
  clear s1 s2 s3 s7 hbI hbT hHeld hmk
  by_cases ha4 : a = 4
  · subst ha4
    have g6 : ((4 : Int) != 4) = false := rfl
    have ZT := C5
    have TT := C6
    have IT := C7
    have BT := Lib.hid hbB
    have HN := Lib.hid C9.out.size
    clear hbB
    have c7 : w5.cell? ⟨zb, 7, none⟩ = some (.int .i64 (H.top : Int)) := by rw [A8.out, ← A9.out]; exact ZT.out.cz rfl
    have f7 : w5.frozen? ⟨zb, 7, none⟩ = false := ZT.out.fz 7
    have k3 : IntKind.i64.wrap (1 + (s : Int)) = 1 + (s : Int) := IntWalk.i64_in _ (by omega)
    have k4 : IntKind.i64.wrap ((H.top : Int) + (1 + (s : Int))) = (H.top : Int) + (1 + (s : Int)) := IntWalk.i64_in _ (by have := ZT.out.hr.tr; have e : (H.alloc 4 b s).top = H.top + 1 + s := rfl; have e2 : (H.alloc 4 b s).room = H.room := rfl; omega)
    go_wp2_with fail
    refine RegU.begin (S := fun wz => wz.cell? ⟨zb, 7, none⟩ = some (.int .i64 (H.top : Int)) ∧ wz.cell? ⟨w.heap.size, 3, none⟩ = some (.int .i64 (s : Int))) (N := [4, 5, 6]) (by kernel_rfl) ?_ (fun hHeld => ?_)
    · (try dsimp only); first | assumption | go_keep
    refine RegU.tk [1, 2, 3, 7, 8, 9, 10] 0 ?_
    refine RegU.tk [2, 3, 7, 8, 9, 10] 1 ?_
    refine RegU.tk [3, 7, 8, 9, 10] 2 ?_
    refine RegU.tk [7, 8, 9, 10] 3 ?_
    refine RegU.tk [5, 6, 7, 8, 9, 10] 4 ?_
    refine RegU.tk [6, 7, 8, 9, 10] 5 ?_
    refine RegU.tk [7, 8, 9, 10] 6 ?_
    refine RegU.tk [8, 9, 10] 7 ?_
    refine RegU.tk [9, 10] 8 ?_
    refine RegU.tk [10] 9 ?_
    refine RegU.rest [10] [_] (by kernel_rfl) rfl ?_
    have c7d : w5.drew.cell? ⟨zb, 7, none⟩ = some (.int .i64 (H.top : Int)) := c7
    have f7d : w5.drew.frozen? ⟨zb, 7, none⟩ = false := f7
    clear c7 f7 k3 k4 hHeld
    go_wp2_with fail
    have hZ7 := ZT.out.setTop ((H.top : Int) + (1 + (s : Int)))
    have D1 := Lib.hid hZ7
    clear c7d f7d
    rw [show (w5.setCell ⟨zb, 7, none⟩ (.int .i64 ((H.top : Int) + (1 + (s : Int))))).drew = w5.drew.setCell ⟨zb, 7, none⟩ (.int .i64 ((H.top : Int) + (1 + (s : Int)))) from rfl]
    generalize hw7 : w5.drew.setCell ⟨zb, 7, none⟩ (.int .i64 ((H.top : Int) + (1 + (s : Int)))) = w7 at *
    have hz7l := hZ7.zlt
    have hh1 := hZ7.o1
    have nT : (Value.slice oaT T.length cT).ownBlock ≠ some zb := fun e => by have := hZ7.o2 _ e; simp only at this hh1; omega
    have nW : (Value.slice oaW T.length cW).ownBlock ≠ some zb := fun e => by have := hZ7.o3 _ e; simp only at this hh1; omega
    have nE : (Value.slice oaE T.length cE).ownBlock ≠ some zb := fun e => by have := hZ7.o4 _ e; simp only at this hh1; omega
    have nK : (Value.slice oaK T.length cK).ownBlock ≠ some zb := fun e => by have := hZ7.o5 _ e; simp only at this hh1; omega
    have hbz : B ≤ w7.heap.size := by have := hZ7.low; simp only at this hz7l; omega
    have hTb : T.length ≤ big := by unfold big; omega
    have E1 := Lib.hid hbz
    refine makes_app1 w7 B zb (w3.heap.size + 1) T.length ((newOb H 4 b s).addr : Int) cT cW oaT oaW (T.map Th.ptr) (wVals T) D1.out.things D1.out.wher (D1.out.cz rfl) (D1.out.cz rfl) (fun i => D1.out.fz i) hbz nT nW (fun k hk e => by have h1 := D1.out.o2 k hk; have h2 := D1.out.o3 k e; omega) hTb hTb ?_
    intro v123 v124 v125 v126 v127 v128 v129 v130 v131 v132 v133 v134 v135 v136 v137 v138 v139 v140 v141 v142 v143 gA kA gB kB w8 hTwo
    have hz8 := two_size hTwo
    have hrE : w8.ownsRow B 4 1 (.slice oaE T.length cE) T.length (T.map fun t => .bool t.here) := ownsRow_same D1.out.here fun k hk => two_keep hTwo (own_lt D1.out.here hk).2 (fun e => nE (e ▸ hk)) (fun e => by have h1 := D1.out.o4 k hk; have h2 := D1.out.o2 k e; omega) (fun e => by have h1 := D1.out.o4 k hk; have h2 := D1.out.o3 k e; omega)
    have hrK : w8.ownsRow B 4 1 (.slice oaK T.length cK) T.length (T.map fun t => .bool t.known) := ownsRow_same D1.out.known fun k hk => two_keep hTwo (own_lt D1.out.known hk).2 (fun e => nK (e ▸ hk)) (fun e => by have h1 := D1.out.o5 k hk; have h2 := D1.out.o2 k e; omega) (fun e => by have h1 := D1.out.o5 k hk; have h2 := D1.out.o3 k e; omega)
    have D2 := Lib.hid hTwo
    clear hZ7
    go_wp2_with fail
    refine makes_app2 w8 B zb T.length cE cK oaE oaK (T.map fun t => .bool t.here) (T.map fun t => .bool t.known) hrE hrK ((two_cell hTwo hz7l nT nW (by decide) (by decide)).trans (D1.out.cz rfl)) ((two_cell hTwo hz7l nT nW (by decide) (by decide)).trans (D1.out.cz rfl)) (fun i => (two_frozen hTwo hz7l nT nW i).trans (D1.out.fz i)) (Nat.le_trans hbz hz8) nE nK (fun k hk e => by have h1 := D1.out.o4 k hk; have h2 := D1.out.o5 k e; omega) hTb hTb ?_
    intro v144 v145 v146 v147 v148 v149 v150 v151 v152 v153 v154 v155 v156 v157 v158 v159 v160 v161 gC kC gD kD w9 hTwo2
    have D3 := Lib.hid hTwo2
    clear hTwo hTwo2 hrE hrK nT nW nE nK
    go_wp2
    go_ret
    have hBn : B ≤ w3.heap.size := by have h1 := B5.out.low; have h2 := B5.out.zlt; simp only at h1 h2; omega
    have hivr : w5.ownsRow w3.heap.size 3 1 (.slice (some ⟨w3.heap.size, 0, none⟩) s s) (List.replicate s (0 : Int)).length ((List.replicate s (0 : Int)).map (Value.int .i64)) := by
      rw [List.length_replicate, List.map_replicate]
      exact ⟨by simp, .inr ⟨w3.heap.size, s, Array.replicate s (Value.int .i64 0), rfl, Nat.le_refl _, IT.out, Nat.le_refl _, by unfold maxLen; omega, by simp, by simp⟩⟩
    obtain ⟨r1, r2⟩ := zr_grow (t := mkTh (w3.heap.size + 1) 4 b (0) s w3.heap.size H.top) ZT.out C8.out HN.out hBn rfl (Nat.le_succ _) BT.out hivr (fun k hk => by have e : w3.heap.size = k := Option.some.inj hk; show k ≠ w3.heap.size + 1; omega) hw7.symm D2.out D3.out
    refine ⟨rfl, tagged O T.length (mkTh (w3.heap.size + 1) 4 b (0) s w3.heap.size H.top) gA gB gC gD, grown ⟨zb, hb, nb, mb, ov, rv, .slice oaT T.length cT, .slice oaW T.length cW, .slice oaE T.length cE, .slice oaK T.length cK⟩ T.length gA kA gB kB gC kC gD kD, ⟨w3.heap.size + 1, w3.heap.size, ?_⟩, ?_, A7.out, ?_⟩
    rotate_left 2
    · refine TT.out.trans (r2.mono (fun k hk => ?_))
      rcases hk with e | e | e | e | e
      · rw [e]; exact ZT.out.low
      · exact (own_lt ZT.out.things e).1
      · exact (own_lt ZT.out.wher e).1
      · exact (own_lt ZT.out.here e).1
      · exact (own_lt ZT.out.known e).1
    · have e : Z.top + (1 + (s : Int)) = (H.top : Int) + (1 + (s : Int)) := by rw [A8.out, A9.out]
      rw [e]
      exact r1
    · first | rfl | exact ⟨rfl, rfl⟩
  · have g6 : (a != 4) = true := by simpa using ha4
    have hBn : B ≤ w3.heap.size := by have h1 := B5.out.low; have h2 := B5.out.zlt; simp only at h1 h2; omega
    have hT5 : Turned (fun k => w3.heap.size ≤ k) w5 (w5.setCell ⟨w3.heap.size + 1, 2, none⟩ (.int .i64 1)) := Turned.setCell (Turned.refl (fun k => w3.heap.size ≤ k) w5) (p := ⟨w3.heap.size + 1, 2, none⟩) (.inl (Nat.le_succ _)) _
    have ZT5 := C5.out.apart C8.out C9.out.size hBn hT5
    have hb5 : (w5.setCell ⟨w3.heap.size + 1, 2, none⟩ (.int .i64 1)).heap[w3.heap.size + 1]? = some (.cells (tBlk a b (1 + cntId T 0) (.slice (some ⟨w3.heap.size, 0, none⟩) s s)) 186 (0, 0)) := by
      rw [blk_set hbB _]
      rfl
    have x2 : w5.cell? ⟨w3.heap.size + 1, 2, none⟩ = some (.int .i64 0) := cell_of_block hbB rfl
    have xf : w5.frozen? ⟨w3.heap.size + 1, 2, none⟩ = false := frozen_of_block hbB
    obtain ⟨g, hgl, hgo⟩ : ∃ g, g < w3.heap.size ∧ ∀ (i : Nat) (t : Th), T[i]? = some t → oaT = some ⟨g, 0, none⟩ := by
      by_cases h0 : 0 < T.length
      · obtain ⟨g, c', e⟩ := row_slice C5.out.things h0
        injection e with e1 _ _
        exact ⟨g, C8.out.tv g (by show (Value.slice oaT T.length cT).ownBlock = some g; rw [e1]; rfl), fun _ _ _ => e1⟩
      · refine ⟨0, by have := C8.out.zb; omega, fun i t ht => absurd (List.getElem?_eq_some_iff.1 ht).1 (by omega)⟩
    have hth : ∀ (i : Nat) (t : Th), T[i]? = some t → oaT = some ⟨g, 0, none⟩ ∧ (w5.setCell ⟨w3.heap.size + 1, 2, none⟩ (.int .i64 1)).cell? ⟨g, i, none⟩ = some (.pointer (some ⟨t.b, 0, none⟩)) ∧ (w5.setCell ⟨w3.heap.size + 1, 2, none⟩ (.int .i64 1)).cell? ⟨t.b, 2, none⟩ = some (.int .i64 t.id) ∧ t.b ≠ w3.heap.size + 1 := fun i t ht => by
      have hm := List.mem_of_getElem? ht
      have hil := (List.getElem?_eq_some_iff.1 ht).1
      have e1 := hgo i t ht
      refine ⟨e1, ?_, cell_of_block (ZT5.thing t hm).1 rfl, by have := (C8.out.th t hm).1; omega⟩
      have h2 := ZT5.things
      simp only at h2
      rw [e1] at h2
      rw [h2.cellAt i (by omega), List.getElem?_map, ht]
      rfl
    have hz1 : (w5.setCell ⟨w3.heap.size + 1, 2, none⟩ (.int .i64 1)).cell? ⟨zb, 1, none⟩ = some (.slice oaT T.length cT) := ZT5.cz rfl
    have hzt : zb ≠ w3.heap.size + 1 := by have h2 := C8.out.zb; simp only at h2; omega
    have Z5 := Lib.hid ZT5
    have Y5 := Lib.hid hb5
    have X5 := Lib.hid hth
    have W5 := Lib.hid hT5
    clear ZT5 hb5 hth hT5 hbB hgo
    go_wp2_with fail
    refine id_loop (w5.setCell ⟨w3.heap.size + 1, 2, none⟩ (.int .i64 1)) zb (w3.heap.size + 1) g cT oaT a b (.slice (some ⟨w3.heap.size, 0, none⟩) s s) T (w5.setCell ⟨w3.heap.size + 1, 2, none⟩ (.int .i64 1)) (by unfold big; omega) hz1 hzt (by omega) X5.out ⟨Y5.out, Turned.refl _ _⟩ ?_
    intro v86 v87 v88 v89 v90 v91 v92 v93 v94 v95 v96 v97 v98 v99 v100 v101 v102 v103 v104 v105 v106 v107 v108 v109 v110 v111 v112 w6 hR6
    obtain ⟨hb6, hT6⟩ := hR6
    have hT56 := W5.out.trans (hT6.mono (T := fun k => w3.heap.size ≤ k) (fun k hk => by omega))
    have ZT := Lib.hid (C5.out.apart C8.out C9.out.size hBn hT56)
    have TT := Lib.hid (C6.out.trans (hT56.mono (fun k hk => Nat.le_trans hBn hk)))
    have hz9 := C9.out.size
    have hI6 : w6.heap[w3.heap.size]? = some (.cells (Array.replicate s (Value.int .i64 0)) 3 (0, 0)) := (hT6.block _ (by have := lt_of_block C7.out; simpa [World.setCell] using this) (by omega)).trans ((blk_ne (p := ⟨w3.heap.size + 1, 2, none⟩) (by show w3.heap.size ≠ w3.heap.size + 1; omega)).trans C7.out)
    have IT := Lib.hid hI6
    have hb6' : w6.heap[w3.heap.size + 1]? = some (.cells #[.int .i64 a, .int .i64 b, .int .i64 (cntId T T.length + 1), .bool false, .slice (some ⟨w3.heap.size, 0, none⟩) s s] 186 (0, 0)) := by
      rw [hb6, show 1 + cntId T T.length = cntId T T.length + 1 by omega]
      rfl
    have BT := Lib.hid hb6'
    have HN := Lib.hid (Nat.le_trans hz9 hT56.size)
    have t3 : w6.cell? ⟨w.heap.size, 3, none⟩ = some (.int .i64 (s : Int)) := (hT6.cell (p := ⟨w.heap.size, 3, none⟩) (by simpa [World.setCell] using (show w.heap.size < w5.heap.size by omega)) (by show w.heap.size ≠ w3.heap.size + 1; omega)).trans ((cell_set_ne (fun e => by have e2 : w.heap.size = w3.heap.size + 1 := congrArg Addr.block e; omega)).trans t3)
    clear hb6 hT6 hT56 hI6 hb6' t1 x2 xf hz1 hBn
    have c7 : w6.cell? ⟨zb, 7, none⟩ = some (.int .i64 (H.top : Int)) := by rw [A8.out, ← A9.out]; exact ZT.out.cz rfl
    have f7 : w6.frozen? ⟨zb, 7, none⟩ = false := ZT.out.fz 7
    have k3 : IntKind.i64.wrap (1 + (s : Int)) = 1 + (s : Int) := IntWalk.i64_in _ (by omega)
    have k4 : IntKind.i64.wrap ((H.top : Int) + (1 + (s : Int))) = (H.top : Int) + (1 + (s : Int)) := IntWalk.i64_in _ (by have := ZT.out.hr.tr; have e : (H.alloc a b s).top = H.top + 1 + s := rfl; have e2 : (H.alloc a b s).room = H.room := rfl; omega)
    go_wp2_with fail
    refine RegU.begin (S := fun wz => wz.cell? ⟨zb, 7, none⟩ = some (.int .i64 (H.top : Int)) ∧ wz.cell? ⟨w.heap.size, 3, none⟩ = some (.int .i64 (s : Int))) (N := [4, 5, 6]) (by kernel_rfl) ?_ (fun hHeld => ?_)
    · (try dsimp only); first | assumption | go_keep
    refine RegU.tk [1, 2, 3, 7, 8, 9, 10] 0 ?_
    refine RegU.tk [2, 3, 7, 8, 9, 10] 1 ?_
    refine RegU.tk [3, 7, 8, 9, 10] 2 ?_
    refine RegU.tk [7, 8, 9, 10] 3 ?_
    refine RegU.tk [5, 6, 7, 8, 9, 10] 4 ?_
    refine RegU.tk [6, 7, 8, 9, 10] 5 ?_
    refine RegU.tk [7, 8, 9, 10] 6 ?_
    refine RegU.tk [8, 9, 10] 7 ?_
    refine RegU.tk [9, 10] 8 ?_
    refine RegU.tk [10] 9 ?_
    refine RegU.rest [10] [_] (by kernel_rfl) rfl ?_
    have c7d : w6.drew.cell? ⟨zb, 7, none⟩ = some (.int .i64 (H.top : Int)) := c7
    have f7d : w6.drew.frozen? ⟨zb, 7, none⟩ = false := f7
    clear c7 f7 k3 k4 hHeld
    go_wp2_with fail
    have hZ7 := ZT.out.setTop ((H.top : Int) + (1 + (s : Int)))
    have D1 := Lib.hid hZ7
    clear c7d f7d
    rw [show (w6.setCell ⟨zb, 7, none⟩ (.int .i64 ((H.top : Int) + (1 + (s : Int))))).drew = w6.drew.setCell ⟨zb, 7, none⟩ (.int .i64 ((H.top : Int) + (1 + (s : Int)))) from rfl]
    generalize hw7 : w6.drew.setCell ⟨zb, 7, none⟩ (.int .i64 ((H.top : Int) + (1 + (s : Int)))) = w7 at *
    have hz7l := hZ7.zlt
    have hh1 := hZ7.o1
    have nT : (Value.slice oaT T.length cT).ownBlock ≠ some zb := fun e => by have := hZ7.o2 _ e; simp only at this hh1; omega
    have nW : (Value.slice oaW T.length cW).ownBlock ≠ some zb := fun e => by have := hZ7.o3 _ e; simp only at this hh1; omega
    have nE : (Value.slice oaE T.length cE).ownBlock ≠ some zb := fun e => by have := hZ7.o4 _ e; simp only at this hh1; omega
    have nK : (Value.slice oaK T.length cK).ownBlock ≠ some zb := fun e => by have := hZ7.o5 _ e; simp only at this hh1; omega
    have hbz : B ≤ w7.heap.size := by have := hZ7.low; simp only at this hz7l; omega
    have hTb : T.length ≤ big := by unfold big; omega
    have E1 := Lib.hid hbz
    refine makes_app1 w7 B zb (w3.heap.size + 1) T.length ((newOb H a b s).addr : Int) cT cW oaT oaW (T.map Th.ptr) (wVals T) D1.out.things D1.out.wher (D1.out.cz rfl) (D1.out.cz rfl) (fun i => D1.out.fz i) hbz nT nW (fun k hk e => by have h1 := D1.out.o2 k hk; have h2 := D1.out.o3 k e; omega) hTb hTb ?_
    intro v123 v124 v125 v126 v127 v128 v129 v130 v131 v132 v133 v134 v135 v136 v137 v138 v139 v140 v141 v142 v143 gA kA gB kB w8 hTwo
    have hz8 := two_size hTwo
    have hrE : w8.ownsRow B 4 1 (.slice oaE T.length cE) T.length (T.map fun t => .bool t.here) := ownsRow_same D1.out.here fun k hk => two_keep hTwo (own_lt D1.out.here hk).2 (fun e => nE (e ▸ hk)) (fun e => by have h1 := D1.out.o4 k hk; have h2 := D1.out.o2 k e; omega) (fun e => by have h1 := D1.out.o4 k hk; have h2 := D1.out.o3 k e; omega)
    have hrK : w8.ownsRow B 4 1 (.slice oaK T.length cK) T.length (T.map fun t => .bool t.known) := ownsRow_same D1.out.known fun k hk => two_keep hTwo (own_lt D1.out.known hk).2 (fun e => nK (e ▸ hk)) (fun e => by have h1 := D1.out.o5 k hk; have h2 := D1.out.o2 k e; omega) (fun e => by have h1 := D1.out.o5 k hk; have h2 := D1.out.o3 k e; omega)
    have D2 := Lib.hid hTwo
    clear hZ7
    go_wp2_with fail
    refine makes_app2 w8 B zb T.length cE cK oaE oaK (T.map fun t => .bool t.here) (T.map fun t => .bool t.known) hrE hrK ((two_cell hTwo hz7l nT nW (by decide) (by decide)).trans (D1.out.cz rfl)) ((two_cell hTwo hz7l nT nW (by decide) (by decide)).trans (D1.out.cz rfl)) (fun i => (two_frozen hTwo hz7l nT nW i).trans (D1.out.fz i)) (Nat.le_trans hbz hz8) nE nK (fun k hk e => by have h1 := D1.out.o4 k hk; have h2 := D1.out.o5 k e; omega) hTb hTb ?_
    intro v144 v145 v146 v147 v148 v149 v150 v151 v152 v153 v154 v155 v156 v157 v158 v159 v160 v161 gC kC gD kD w9 hTwo2
    have D3 := Lib.hid hTwo2
    clear hTwo hTwo2 hrE hrK nT nW nE nK
    go_wp2
    go_ret
    have hBn : B ≤ w3.heap.size := by have h1 := B5.out.low; have h2 := B5.out.zlt; simp only at h1 h2; omega
    have hivr : w6.ownsRow w3.heap.size 3 1 (.slice (some ⟨w3.heap.size, 0, none⟩) s s) (List.replicate s (0 : Int)).length ((List.replicate s (0 : Int)).map (Value.int .i64)) := by
      rw [List.length_replicate, List.map_replicate]
      exact ⟨by simp, .inr ⟨w3.heap.size, s, Array.replicate s (Value.int .i64 0), rfl, Nat.le_refl _, IT.out, Nat.le_refl _, by unfold maxLen; omega, by simp, by simp⟩⟩
    obtain ⟨r1, r2⟩ := zr_grow (t := mkTh (w3.heap.size + 1) a b (cntId T T.length + 1) s w3.heap.size H.top) ZT.out C8.out HN.out hBn rfl (Nat.le_succ _) BT.out hivr (fun k hk => by have e : w3.heap.size = k := Option.some.inj hk; show k ≠ w3.heap.size + 1; omega) hw7.symm D2.out D3.out
    refine ⟨rfl, tagged O T.length (mkTh (w3.heap.size + 1) a b (cntId T T.length + 1) s w3.heap.size H.top) gA gB gC gD, grown ⟨zb, hb, nb, mb, ov, rv, .slice oaT T.length cT, .slice oaW T.length cW, .slice oaE T.length cE, .slice oaK T.length cK⟩ T.length gA kA gB kB gC kC gD kD, ⟨w3.heap.size + 1, w3.heap.size, ?_⟩, ?_, A7.out, ?_⟩
    rotate_left 2
    · refine TT.out.trans (r2.mono (fun k hk => ?_))
      rcases hk with e | e | e | e | e
      · rw [e]; exact ZT.out.low
      · exact (own_lt ZT.out.things e).1
      · exact (own_lt ZT.out.wher e).1
      · exact (own_lt ZT.out.here e).1
      · exact (own_lt ZT.out.known e).1
    · have e : Z.top + (1 + (s : Int)) = (H.top : Int) + (1 + (s : Int)) := by rw [A8.out, A9.out]
      rw [e]
      exact r1
    · first | rfl | exact ⟨rfl, rfl⟩
end Go.Proofs.YthbkklnahhdgcaaDoor.PlO

namespace Go.Proofs.YthbkklnahhdgcaaDoor.PlX
open Go Go.Proofs Go.RowKit Go.Maps Go.Proofs.YthbkklnahhdgcaaDoor.Lib HeapR HeapG ErrC ChA ChT ChCa ChCc ChE ChH ChL ChN ChO ChZ PlC PlT PlZ PlM PlN PlO

variable {H H' : HS} {nu ol : List Ob} {T : List Th} {Z : Zn} {loc : Nat → Ob}
theorem ZI.idpos (hz : ZI H nu ol T Z loc) {i : Nat} {t : Th} (ht : T[i]? = some t) : 0 < t.id ↔ t.kind ≠ 4 := by
  rw [hz.ids i t ht]
  by_cases h : t.kind = 4
  · simp [h]
  · rw [if_neg h]
    constructor
    · exact fun _ => h
    · intro _
      omega
theorem cnt_ided (hz : ZI H nu ol T Z loc) (i : Nat) : cntId T i = ((T.take i).countP ided : Nat) := by
  unfold cntId
  congr 1
  refine List.countP_congr fun t ht => ?_
  obtain ⟨j, hj⟩ := List.getElem?_of_mem (List.mem_of_mem_take ht)
  have h1 := ZI.idpos hz hj
  unfold ided
  simp only [decide_eq_true_eq]
  exact h1
theorem FM.grow {x : Int} {v : Vl} (h : FM T loc x v) (t : Th) (loc' : Nat → Ob) (e : ∀ i, i < T.length → loc' i = loc i) : FM (T ++ [t]) loc' x v := by
  rcases h with h | h | ⟨j, u, h1, h2, h3, h4⟩
  · exact .inl h
  · exact .inr (.inl h)
  · have hj := (List.getElem?_eq_some_iff.1 h2).1
    exact .inr (.inr ⟨j, u, h1, by rw [List.getElem?_append_left hj]; exact h2, h3, by rw [e j hj]; exact h4⟩)
/-- Behind makes. -/
theorem zi_make (hz : ZI H nu ol T Z loc) {a b : Int} {s b0 bI : Nat} (hi : HI (H.alloc a b s) (nu ++ [newOb H a b s]) ol) (h1 : 1 ≤ a) (h4 : a ≤ 4) (hs : s ≤ 1000) :
    ZI (H.alloc a b s) (nu ++ [newOb H a b s]) ol (T ++ [mkTh b0 a b (if a = 4 then 0 else cntId T T.length + 1) s bI H.top]) { Z with top := Z.top + (1 + (s : Int)) } (fun i => if i = T.length then newOb H a b s else loc i) := by
  have hnd := hi.nodup
  have hnew : newOb H a b s ∉ nu ++ ol := fun h => by
    rw [List.append_assoc] at hnd
    have h2 := List.nodup_append.mp hnd
    rcases List.mem_append.mp h with h | h
    · exact h2.2.2 _ h _ (List.mem_cons_self ..) rfl
    · have h3 := List.nodup_append.mp h2.2.1
      exact h3.2.2 _ (List.mem_singleton.mpr rfl) _ h rfl
  have hsub : ∀ o ∈ nu ++ ol, o ∈ (nu ++ [newOb H a b s]) ++ ol := fun o ho => by
    rcases List.mem_append.mp ho with h | h
    · exact List.mem_append.mpr (Or.inl (List.mem_append.mpr (Or.inl h)))
    · exact List.mem_append.mpr (Or.inr h)
  have hold : ∀ i, i < T.length → (if i = T.length then newOb H a b s else loc i) = loc i := fun i hi => if_neg (by omega)
  have split : ∀ {i : Nat} {t : Th}, (T ++ [mkTh b0 a b (if a = 4 then 0 else cntId T T.length + 1) s bI H.top])[i]? = some t → (i < T.length ∧ T[i]? = some t) ∨ (i = T.length ∧ t = mkTh b0 a b (if a = 4 then 0 else cntId T T.length + 1) s bI H.top) := fun {i t} h => by
    by_cases hil : i < T.length
    · rw [List.getElem?_append_left hil] at h
      exact .inl ⟨hil, h⟩
    · rw [List.getElem?_append_right (by omega)] at h
      have hi0 : i - T.length = 0 := by
        have := (List.getElem?_eq_some_iff.1 h).1
        simp at this
        omega
      rw [hi0] at h
      exact .inr ⟨by omega, (by simpa using h.symm)⟩
  have hcnt := cnt_ided hz T.length
  rw [List.take_length] at hcnt
  exact {
    hi := hi
    obj := fun i t ht hh => by
      rcases split ht with ⟨hil, ht⟩ | ⟨rfl, rfl⟩
      · obtain ⟨e1, e2, e3⟩ := hz.obj i t ht hh
        simp only [hold i hil]
        exact ⟨hsub _ e1, e2, ⟨e3.kind, e3.tag, e3.id, e3.len, fun j x v hx hv => FM.grow (e3.fld j x v hx hv) _ _ hold⟩⟩
      · simp only [if_true]
        refine ⟨List.mem_append.mpr (Or.inl (List.mem_append.mpr (Or.inr (List.mem_singleton.mpr rfl)))), ⟨fun h => (by cases h), fun h => absurd (List.mem_append.mpr (Or.inr h)) hnew⟩, ⟨rfl, rfl, ?_, ?_, fun j x v hx hv => ?_⟩⟩
        · show (if a = 4 then 0 else (H.next : Int) + 1) = (if a = 4 then 0 else cntId T T.length + 1)
          rw [hcnt, hz.next]
        · show (List.replicate s nilV).length = (List.replicate s (0 : Int)).length
          simp
        · left
          have hx' : (List.replicate s (0 : Int))[j]? = some x := hx
          have hv' : (List.replicate s nilV)[j]? = some v := hv
          rw [List.getElem?_replicate] at hx' hv'
          have hj := (List.getElem?_eq_some_iff.1 hx).1
          rw [if_pos (by simpa [mkTh] using hj)] at hx' hv'
          exact ⟨(Option.some.inj hx').symm, (Option.some.inj hv').symm⟩
    inj := fun i j t u ht hu h1 h2 e => by
      rcases split ht with ⟨hil, ht⟩ | ⟨rfl, rfl⟩ <;> rcases split hu with ⟨hjl, hu⟩ | ⟨rfl, rfl⟩
      · simp only [hold i hil, hold j hjl] at e
        exact hz.inj i j t u ht hu h1 h2 e
      · simp only [hold i hil, if_true] at e
        exact absurd (e ▸ (hz.obj i t ht h1).1) hnew
      · simp only [hold j hjl, if_true] at e
        exact absurd (e ▸ (hz.obj j u hu h2).1) hnew
      · rfl
    all := fun o ho => by
      have key : ∀ o ∈ nu ++ ol, ∃ i t, (T ++ [mkTh b0 a b (if a = 4 then 0 else cntId T T.length + 1) s bI H.top])[i]? = some t ∧ t.here = true ∧ (if i = T.length then newOb H a b s else loc i) = o := fun o ho => by
        obtain ⟨i, t, e1, e2, e3⟩ := hz.all o ho
        have hil := (List.getElem?_eq_some_iff.1 e1).1
        exact ⟨i, t, by rw [List.getElem?_append_left hil]; exact e1, e2, by rw [hold i hil]; exact e3⟩
      rcases List.mem_append.mp ho with ho | ho
      · rcases List.mem_append.mp ho with ho | ho
        · exact key o (List.mem_append.mpr (Or.inl ho))
        · rw [List.mem_singleton.mp ho]
          exact ⟨T.length, _, by rw [List.getElem?_append_right (Nat.le_refl _), Nat.sub_self]; rfl, rfl, if_pos rfl⟩
      · exact key o (List.mem_append.mpr (Or.inr ho))
    known := fun i t ht hk => by
      rcases split ht with ⟨hil, ht⟩ | ⟨rfl, rfl⟩
      · simp only [hold i hil]
        exact hz.known i t ht hk
      · simp only [if_true]
        exact ⟨rfl, rfl⟩
    oldh := fun t ht ho => by
      rcases List.mem_append.mp ht with ht | ht
      · exact hz.oldh t ht ho
      · rw [List.mem_singleton.mp ht] at ho
        cases ho
    ids := fun i t ht => by
      rcases split ht with ⟨hil, ht⟩ | ⟨rfl, rfl⟩
      · rw [List.take_append_of_le_length (by omega)]
        exact hz.ids i t ht
      · rw [List.take_left]
        show (if a = 4 then 0 else cntId T T.length + 1) = if a = 4 then 0 else _
        rw [hcnt]
    next := by
      rw [List.countP_append]
      show (if a = 4 then H.next else H.next + 1) = _
      have e : [mkTh b0 a b (if a = 4 then 0 else cntId T T.length + 1) s bI H.top].countP ided = if a = 4 then 0 else 1 := by
        rw [List.countP_singleton]
        show (if decide (a ≠ 4) = true then 1 else 0) = _
        by_cases h : a = 4 <;> simp [h]
      rw [e, hz.next]
      split <;> omega
    kinds := fun t ht => by
      rcases List.mem_append.mp ht with ht | ht
      · exact hz.kinds t ht
      · rw [List.mem_singleton.mp ht]
        exact ⟨h1, h4⟩
    len := fun t ht => by
      rcases List.mem_append.mp ht with ht | ht
      · exact hz.len t ht
      · rw [List.mem_singleton.mp ht]
        show (List.replicate s (0 : Int)).length ≤ 1000
        rw [List.length_replicate]
        exact hs
    most := hz.most
    room := hz.room
    top := by
      show Z.top + (1 + (s : Int)) = (total (nu ++ [newOb H a b s]) : Int)
      rw [total_append, hz.top]
      have e : total [newOb H a b s] = 1 + s := by simp [total, newOb, Ob.len]
      rw [e]
      omega
    old := hz.old
    minors := hz.minors
    majors := hz.majors }
end Go.Proofs.YthbkklnahhdgcaaDoor.PlX
