/-
  HeapPlays' zoo behind sets. No walk in sight (but rewindlaw.pick's).
-/
import Derived.Test.YthbkklnahhdgcaaDoorPG16
import Derived.Test.YthbkklnahhdgcaaDoorPG13
import Derived.Test.YthbkklnahhdgcaaDoorPG11
import Derived.Test.YthbkklnahhdgcaaDoorPG07
import Derived.Test.YthbkklnahhdgcaaDoorPPlQ
import Derived.Deep.AppendLies
set_option maxRecDepth 100000
set_option maxHeartbeats 4000000
namespace Go.Proofs.YthbkklnahhdgcaaDoor.PlY
open Go Go.Proofs Go.RowKit Go.Maps Go.Proofs.YthbkklnahhdgcaaDoor.Lib HeapR HeapG ErrC ChA ChT ChCa ChCc ChE ChH ChL ChN ChO ChZ PlC PlT PlU PlZ PlM PlN PlO PlX

def pickV (a : Int) (n : Nat) : Int := wrap64 ((IntKind.u64.wrap a).tmod (n : Int))
theorem pick_same (a : Int) (n : Nat) (w : World) (h0 : 0 < n) (h1 : n ≤ big) :
    Calls Tryd.prog 90 #[.int .i64 a, .int .i64 (n : Int)] w fun e w' => e = .returned (.int .i64 (pickV a n)) ∧ w' = w := by
  have c1 : IntKind.u64.wrap (n : Int) = (n : Int) := IntWalk.u64_in _ (by unfold big at h1; omega)
  unfold pickV
  go_enter Tryd.func90, Tryd.ntmps90
  go_wp2
  go_ret
  exact ⟨rfl, rfl⟩
theorem pickV_nat (a : Int) (n : Nat) (h0 : 0 < n) (h1 : n ≤ big) : ∃ j : Nat, j < n ∧ pickV a n = (j : Int) := pick_val a n h0 h1

variable {w w' : World} {O : Nat → Nat} {B : Nat} {V : Zv} {H H' : HS} {T : List Th} {Z : Zn} {nu ol : List Ob} {loc : Nat → Ob}
/-- The heap turned; what it remembers may lie elsewhere. -/
theorem zr_turnHeap2 {rv' : Value} (h : ZR w O B V H T Z) (hT : Turned V.heap w w') (hr : HR w' V.hb V.nb V.mb V.ov rv' B H') (hrv : ∀ k, rv'.ownBlock = some k → V.rv.ownBlock = some k ∨ w.heap.size ≤ k) :
    ZR w' (fun k => if rv'.ownBlock = some k then 0 else O k) B { V with rv := rv' } H' T Z := by
  have keep : ∀ k, k < w.heap.size → O k ≠ 0 → w'.heap[k]? = w.heap[k]? := fun k hk ho => hT.block k hk (fun hh => ho (h.o0 k hh))
  have o1 := h.o1
  have tg : ∀ k, k < w.heap.size → O k ≠ 0 → (if rv'.ownBlock = some k then 0 else O k) = O k := fun k hk ho => if_neg (fun e => by
    rcases hrv k e with h1 | h1
    · exact ho (h.o0 k (.inr (.inr (.inr (.inr h1)))))
    · omega)
  exact {
    blk := (keep _ h.zlt (by omega)).trans h.blk
    hr := hr
    things := ownsRow_same h.things fun k hk => keep k (own_lt h.things hk).2 (by have := h.o2 k hk; omega)
    wher := ownsRow_same h.wher fun k hk => keep k (own_lt h.wher hk).2 (by have := h.o3 k hk; omega)
    here := ownsRow_same h.here fun k hk => keep k (own_lt h.here hk).2 (by have := h.o4 k hk; omega)
    known := ownsRow_same h.known fun k hk => keep k (own_lt h.known hk).2 (by have := h.o5 k hk; omega)
    thing := fun t ht => by
      obtain ⟨i, hi⟩ := List.getElem?_of_mem ht
      obtain ⟨e1, _, e2⟩ := h.ot i t hi
      exact ⟨(keep _ (h.tlt ht) (by omega)).trans (h.thing t ht).1, ownsRow_same (h.thing t ht).2 fun k hk => keep k (own_lt (h.thing t ht).2 hk).2 (by have := e2 k hk; omega)⟩
    o0 := fun k hk => by
      show (if rv'.ownBlock = some k then 0 else O k) = 0
      split
      · rfl
      · rename_i hn
        rcases hk with e | e | e | e | e
        · exact h.o0 k (.inl e)
        · exact h.o0 k (.inr (.inl e))
        · exact h.o0 k (.inr (.inr (.inl e)))
        · exact h.o0 k (.inr (.inr (.inr (.inl e))))
        · exact absurd e hn
    o1 := (tg _ h.zlt (by omega)).trans h.o1
    o2 := fun k hk => (tg k (own_lt h.things hk).2 (by have := h.o2 k hk; omega)).trans (h.o2 k hk)
    o3 := fun k hk => (tg k (own_lt h.wher hk).2 (by have := h.o3 k hk; omega)).trans (h.o3 k hk)
    o4 := fun k hk => (tg k (own_lt h.here hk).2 (by have := h.o4 k hk; omega)).trans (h.o4 k hk)
    o5 := fun k hk => (tg k (own_lt h.known hk).2 (by have := h.o5 k hk; omega)).trans (h.o5 k hk)
    ot := fun i t hi => by
      obtain ⟨e1, e2, e3⟩ := h.ot i t hi
      have hm := List.mem_of_getElem? hi
      exact ⟨(tg _ (h.tlt hm) (by omega)).trans e1, e2, fun k hk => (tg k (own_lt (h.thing t hm).2 hk).2 (by have := e3 k hk; omega)).trans (e3 k hk)⟩
    low := h.low
    et := (World.cell?_of_block (a := ⟨1, 0, none⟩) (hT.block _ h.etlt (fun hh => absurd (h.hr.ge hh) (Nat.not_le.mpr h.el)))).trans h.et
    el := h.el }
theorem map_set_same {α β : Type} (f : α → β) (l : List α) (k : Nat) (a : α) (h : ∀ b, l[k]? = some b → f a = f b) : (l.set k a).map f = l.map f := by
  refine List.ext_getElem? fun i => ?_
  rw [List.getElem?_map, List.getElem?_map, List.getElem?_set]
  by_cases hi : k = i
  · subst hi
    rw [if_pos rfl]
    by_cases hl : k < l.length
    · rw [if_pos hl, List.getElem?_eq_getElem hl]
      simp only [Option.map_some]
      rw [h _ (List.getElem?_eq_getElem hl)]
    · rw [if_neg hl, List.getElem?_eq_none (by omega)]
  · rw [if_neg hi]
/-- A field of a thing was set. -/
def setIs (t : Th) (i : Nat) (x : Int) : Th := { t with is := t.is.set i x }
theorem zr_setIs {k i g n c : Nat} {t : Th} {x : Int} (h : ZR w O B V H T Z) (hk : T[k]? = some t) (hiv : t.iv = .slice (some ⟨g, 0, none⟩) n c) :
    ZR (w.setCell ⟨g, i, none⟩ (.int .i64 x)) O B V H (T.set k (setIs t i x)) Z ∧ Turned (fun k => B ≤ k) w (w.setCell ⟨g, i, none⟩ (.int .i64 x)) := by
  have hm := List.mem_of_getElem? hk
  obtain ⟨t1, _, t3⟩ := h.ot k t hk
  have hgo : t.iv.ownBlock = some g := by rw [hiv]; rfl
  have og := t3 g hgo
  have hgl := own_lt (h.thing t hm).2 hgo
  have keep : ∀ j, O j ≠ 2 * k + 7 → (w.setCell ⟨g, i, none⟩ (.int .i64 x)).heap[j]? = w.heap[j]? := fun j ho => blk_ne (p := ⟨g, i, none⟩) (fun e => ho (by rw [show j = g from e]; exact og))
  have o1 := h.o1
  have hkl := (List.getElem?_eq_some_iff.1 hk).1
  have same : ∀ {β : Type} (f : Th → β), f (setIs t i x) = f t → (T.set k (setIs t i x)).map f = T.map f := fun f e => map_set_same f T k _ (fun b hb => by
    rw [hk] at hb
    rw [e, Option.some.inj hb])
  have hw : wVals (T.set k (setIs t i x)) = wVals T := by
    have e1 : ∀ l : List Th, wVals l = (l.map fun t => vlVals t.wv).flatten := fun l => by
      unfold wVals
      rw [List.flatMap_def]
    rw [e1, e1, same (fun t => vlVals t.wv) rfl]
  have split : ∀ {j : Nat} {u : Th}, (T.set k (setIs t i x))[j]? = some u → (j = k ∧ u = setIs t i x) ∨ (j ≠ k ∧ T[j]? = some u) := fun {j u} hj => by
    rw [List.getElem?_set] at hj
    by_cases e : k = j
    · rw [if_pos e, if_pos hkl] at hj
      exact .inl ⟨e.symm, (Option.some.inj hj).symm⟩
    · rw [if_neg e] at hj
      exact .inr ⟨Ne.symm e, hj⟩
  refine ⟨{
    blk := (keep _ (by omega)).trans h.blk
    hr := h.hr.same fun j hj => keep j (by have := h.o0 j hj; omega)
    things := by
      rw [List.length_set, same Th.ptr rfl]
      exact ownsRow_same h.things fun j hj => keep j (by have := h.o2 j hj; omega)
    wher := by
      rw [List.length_set, hw]
      exact ownsRow_same h.wher fun j hj => keep j (by have := h.o3 j hj; omega)
    here := by
      rw [List.length_set, same (fun t : Th => Value.bool t.here) rfl]
      exact ownsRow_same h.here fun j hj => keep j (by have := h.o4 j hj; omega)
    known := by
      rw [List.length_set, same (fun t : Th => Value.bool t.known) rfl]
      exact ownsRow_same h.known fun j hj => keep j (by have := h.o5 j hj; omega)
    thing := fun u hu => by
      obtain ⟨j, hj⟩ := List.getElem?_of_mem hu
      rcases split hj with ⟨rfl, rfl⟩ | ⟨hne, hj⟩
      · refine ⟨(keep _ (show O t.b ≠ 2 * j + 7 by omega)).trans (h.thing t hm).1, ?_⟩
        have h2 := (h.thing t hm).2
        show World.ownsRow _ B 3 1 t.iv (t.is.set i x).length ((t.is.set i x).map (Value.int .i64))
        rw [List.length_set, List.map_set]
        rw [hiv] at h2 ⊢
        have hn : t.is.length = n := by
          rcases h2.2 with ⟨e, _⟩ | ⟨_, _, _, e, _⟩
          · cases e
          · injection e with _ e2 _
            exact e2.symm
        subst hn
        exact (h2.stored i (.int .i64 x)).1
      · have hm2 := List.mem_of_getElem? hj
        obtain ⟨e1, _, e3⟩ := h.ot j u hj
        exact ⟨(keep _ (by omega)).trans (h.thing u hm2).1, ownsRow_same (h.thing u hm2).2 fun b hb => keep b (by have := e3 b hb; omega)⟩
    o0 := h.o0
    o1 := h.o1
    o2 := h.o2
    o3 := h.o3
    o4 := h.o4
    o5 := h.o5
    ot := fun j u hj => by
      rcases split hj with ⟨rfl, rfl⟩ | ⟨_, hj⟩
      · exact h.ot j t hk
      · exact h.ot j u hj
    low := h.low
    et := (World.cell?_of_block (a := ⟨1, 0, none⟩) (blk_ne (p := ⟨g, i, none⟩) (fun e => by
      have h2 := hgl.1
      rw [← (show 1 = g from e)] at h2
      exact absurd h2 (Nat.not_le.mpr h.el)))).trans h.et
    el := h.el }, Turned.setCell (Turned.refl (fun k => B ≤ k) w) (p := ⟨g, i, none⟩) (.inl hgl.1) _⟩
end Go.Proofs.YthbkklnahhdgcaaDoor.PlY

namespace Go.Proofs.YthbkklnahhdgcaaDoor.PlYa
open Go Go.Proofs Go.RowKit Go.Maps Go.Proofs.YthbkklnahhdgcaaDoor.Lib HeapR HeapG ErrC ChA ChT ChCa ChCc ChE ChH ChL ChN ChO ChZ PlC PlT PlU PlZ PlM PlN PlO PlX PlY

variable {H H' : HS} {nu ol : List Ob} {T : List Th} {Z : Zn} {loc : Nat → Ob}
theorem countP_ided (l : List Th) : l.countP ided = (l.map Th.kind).countP (fun k => decide (k ≠ 4)) := by
  rw [List.countP_map]
  rfl
def upd (a i : Nat) (v : Vl) (x : Ob) : Ob := if x.addr = a then { x with fs := x.fs.set i v } else x
theorem upd_addr (a i : Nat) (v : Vl) (x : Ob) : (upd a i v x).addr = x.addr := setOb_addr x a i v
theorem mem_upd {l : List Ob} {a i : Nat} {v : Vl} {x : Ob} (h : x ∈ l) : upd a i v x ∈ setOb l a i v := List.mem_map.mpr ⟨x, h, rfl⟩
theorem of_upd {l : List Ob} {a i : Nat} {v : Vl} {y : Ob} (h : y ∈ setOb l a i v) : ∃ x ∈ l, y = upd a i v x := by
  obtain ⟨x, hx, e⟩ := List.mem_map.mp h
  exact ⟨x, hx, e.symm⟩
theorem refV_upd (a i : Nat) (v : Vl) (x : Ob) : refV (upd a i v x) = refV x := by
  unfold refV
  rw [upd_addr]

theorem zi_set (hz : ZI H nu ol T Z loc) {k i : Nat} {t : Th} {x : Int} {v : Vl} (hk : T[k]? = some t) (hkh : t.here = true) (hfm : FM T loc x v)
    (hi' : HI H' (setOb nu (loc k).addr i v) (setOb ol (loc k).addr i v)) (hl : SetLike H H') :
    ZI H' (setOb nu (loc k).addr i v) (setOb ol (loc k).addr i v) (T.set k (setIs t i x)) Z (fun j => upd (loc k).addr i v (loc j)) := by
  have hap := hz.hi.apart
  have hkl := (List.getElem?_eq_some_iff.1 hk).1
  have hkm := (hz.obj k t hk hkh).1
  have split : ∀ {j : Nat} {u : Th}, (T.set k (setIs t i x))[j]? = some u → (j = k ∧ u = setIs t i x) ∨ (j ≠ k ∧ T[j]? = some u) := fun {j u} hj => by
    rw [List.getElem?_set] at hj
    by_cases e : k = j
    · rw [if_pos e, if_pos hkl] at hj
      exact .inl ⟨e.symm, (Option.some.inj hj).symm⟩
    · rw [if_neg e] at hj
      exact .inr ⟨Ne.symm e, hj⟩
  have back : ∀ {j : Nat} {u : Th}, (T.set k (setIs t i x))[j]? = some u → ∃ u0, T[j]? = some u0 ∧ u.here = u0.here ∧ u.known = u0.known ∧ u.old = u0.old ∧ u.kind = u0.kind ∧ u.id = u0.id ∧ u.wv = u0.wv ∧ u.tag = u0.tag ∧ u.is.length = u0.is.length := fun {j u} hj => by
    rcases split hj with ⟨rfl, rfl⟩ | ⟨_, hj⟩
    · exact ⟨t, hk, rfl, rfl, rfl, rfl, rfl, rfl, rfl, List.length_set ..⟩
    · exact ⟨u, hj, rfl, rfl, rfl, rfl, rfl, rfl, rfl, rfl⟩
  have fore : ∀ {j : Nat} {u : Th}, T[j]? = some u → ∃ u', (T.set k (setIs t i x))[j]? = some u' ∧ u'.here = u.here := fun {j u} hj => by
    by_cases e : j = k
    · subst e
      rw [hk] at hj
      cases hj
      exact ⟨setIs t i x, by rw [List.getElem?_set, if_pos rfl, if_pos hkl], rfl⟩
    · exact ⟨u, by rw [List.getElem?_set, if_neg (Ne.symm e)]; exact hj, rfl⟩
  have fm : ∀ {y : Int} {u : Vl}, FM T loc y u → FM (T.set k (setIs t i x)) (fun j => upd (loc k).addr i v (loc j)) y u := fun {y u} h => by
    rcases h with h | h | ⟨j, s, h1, h2, h3, h4⟩
    · exact .inl h
    · exact .inr (.inl h)
    · obtain ⟨s', e1, e2⟩ := fore h2
      exact .inr (.inr ⟨j, s', h1, e1, e2.trans h3, by rw [refV_upd]; exact h4⟩)
  have kinds : (T.set k (setIs t i x)).map Th.kind = T.map Th.kind := map_set_same Th.kind T k _ (fun b hb => by
    rw [hk] at hb
    rw [← Option.some.inj hb]
    rfl)
  exact {
    hi := hi'
    obj := fun j u hj hh => by
      obtain ⟨u0, e0, e1, _, e3, e4, e5, _, e7, e8⟩ := back hj
      obtain ⟨f1, f2, f3⟩ := hz.obj j u0 e0 (e1 ▸ hh)
      refine ⟨?_, ?_, ?_⟩
      · rcases List.mem_append.mp f1 with h | h
        · exact List.mem_append.mpr (Or.inl (mem_upd h))
        · exact List.mem_append.mpr (Or.inr (mem_upd h))
      · rw [e3, f2]
        constructor
        · exact fun h => mem_upd h
        · intro h
          obtain ⟨y, hy, e⟩ := of_upd h
          have ea : (loc j).addr = y.addr := by
            have := congrArg Ob.addr e
            rw [upd_addr, upd_addr] at this
            exact this
          rw [hap _ f1 y (List.mem_append.mpr (Or.inr hy)) ea]
          exact hy
      · rcases split hj with ⟨rfl, rfl⟩ | ⟨hne, hj⟩
        · rw [hk] at e0
          cases e0
          have eu : upd (loc j).addr i v (loc j) = { loc j with fs := (loc j).fs.set i v } := if_pos rfl
          simp only [eu]
          refine ⟨f3.kind, f3.tag, f3.id, by
            show ((loc j).fs.set i v).length = (t.is.set i x).length
            rw [List.length_set, List.length_set]
            exact f3.len, fun m y u hy hu => ?_⟩
          have hy' : (t.is.set i x)[m]? = some y := hy
          have hu' : ((loc j).fs.set i v)[m]? = some u := hu
          rw [List.getElem?_set] at hy' hu'
          by_cases em : i = m
          · rw [if_pos em] at hy' hu'
            split at hy'
            · split at hu'
              · rw [← Option.some.inj hy', ← Option.some.inj hu']
                exact fm hfm
              · cases hu'
            · cases hy'
          · rw [if_neg em] at hy' hu'
            exact fm (f3.fld m y u hy' hu')
        · rw [hj] at e0
          cases e0
          have hna : (loc j).addr ≠ (loc k).addr := fun e => hne (hz.inj j k u t hj hk hh hkh (hap _ f1 _ hkm e))
          have eu : upd (loc k).addr i v (loc j) = loc j := if_neg hna
          simp only [eu]
          exact ⟨f3.kind, f3.tag, f3.id, f3.len, fun m y u hy hu => fm (f3.fld m y u hy hu)⟩
    inj := fun a b s u ha hb h1 h2 e => by
      obtain ⟨s0, p0, p1, _⟩ := back ha
      obtain ⟨u0, r0, r1, _⟩ := back hb
      have ea : (loc a).addr = (loc b).addr := by
        have := congrArg Ob.addr e
        rw [upd_addr, upd_addr] at this
        exact this
      have f1 := (hz.obj a s0 p0 (p1 ▸ h1)).1
      have f2 := (hz.obj b u0 r0 (r1 ▸ h2)).1
      exact hz.inj a b s0 u0 p0 r0 (p1 ▸ h1) (r1 ▸ h2) (hap _ f1 _ f2 ea)
    all := fun o ho => by
      have key : ∃ y ∈ nu ++ ol, o = upd (loc k).addr i v y := by
        rcases List.mem_append.mp ho with h | h
        · obtain ⟨y, hy, e⟩ := of_upd h
          exact ⟨y, List.mem_append.mpr (Or.inl hy), e⟩
        · obtain ⟨y, hy, e⟩ := of_upd h
          exact ⟨y, List.mem_append.mpr (Or.inr hy), e⟩
      obtain ⟨y, hy, e⟩ := key
      obtain ⟨j, u, e1, e2, e3⟩ := hz.all y hy
      obtain ⟨u', e4, e5⟩ := fore e1
      exact ⟨j, u', e4, e5.trans e2, by rw [e, ← e3]⟩
    known := fun j u hj hkn => by
      obtain ⟨u0, e0, e1, e2, _, _, _, e6, _⟩ := back hj
      obtain ⟨f1, f2⟩ := hz.known j u0 e0 (e2 ▸ hkn)
      exact ⟨e1.trans f1, by rw [e6, f2, refV_upd]⟩
    oldh := fun u hu ho => by
      obtain ⟨j, hj⟩ := List.getElem?_of_mem hu
      obtain ⟨u0, e0, e1, _, e3, _⟩ := back hj
      rw [e1]
      exact hz.oldh u0 (List.mem_of_getElem? e0) (e3 ▸ ho)
    ids := fun j u hj => by
      obtain ⟨u0, e0, _, _, _, e4, e5, _⟩ := back hj
      have h1 := hz.ids j u0 e0
      have h2 : ((T.set k (setIs t i x)).take j).countP ided = (T.take j).countP ided := by
        rw [countP_ided, countP_ided, List.map_take, List.map_take, kinds]
      rw [e4, e5, h2]
      exact h1
    next := by rw [hl.next, hz.next, countP_ided, countP_ided, kinds]
    kinds := fun u hu => by
      obtain ⟨j, hj⟩ := List.getElem?_of_mem hu
      obtain ⟨u0, e0, _, _, _, e4, _⟩ := back hj
      rw [e4]
      exact hz.kinds u0 (List.mem_of_getElem? e0)
    len := fun u hu => by
      obtain ⟨j, hj⟩ := List.getElem?_of_mem hu
      obtain ⟨u0, e0, _, _, _, _, _, _, _, e8⟩ := back hj
      rw [e8]
      exact hz.len u0 (List.mem_of_getElem? e0)
    most := by rw [hl.most]; exact hz.most
    room := by rw [hl.room]; exact hz.room
    top := by rw [total_setOb]; exact hz.top
    old := by rw [total_setOb]; exact hz.old
    minors := by rw [hl.minors]; exact hz.minors
    majors := by rw [hl.majors]; exact hz.majors }
end Go.Proofs.YthbkklnahhdgcaaDoor.PlYa

namespace Go.Proofs.YthbkklnahhdgcaaDoor.PlG
open Go Go.Proofs Go.RowKit Go.Maps Go.Proofs.YthbkklnahhdgcaaDoor.Lib HeapR HeapG ErrC ChA ChT ChCa ChCc ChE ChH ChJ ChL ChN ChO ChQ ChR ChU ChX ChYf ChZ PlT PlZ PlX PlYa PlL PlLd

variable {H H' : HS} {nu ol : List Ob} {T T' : List Th} {Z Z' : Zn} {loc : Nat → Ob}

theorem inj_of_nodup {α β : Type} {f : α → β} : ∀ {l : List α}, (l.map f).Nodup → ∀ x ∈ l, ∀ y ∈ l, f x = f y → x = y
  | [], _, x, hx, _, _, _ => by cases hx
  | a :: l, h, x, hx, y, hy, e => by
    rw [List.map_cons, List.nodup_cons] at h
    rcases List.mem_cons.mp hx with rfl | hx' <;> rcases List.mem_cons.mp hy with rfl | hy'
    · rfl
    · exact absurd (List.mem_map.mpr ⟨y, hy', e.symm⟩) h.1
    · exact absurd (List.mem_map.mpr ⟨x, hx', e⟩) h.1
    · exact inj_of_nodup h.2 x hx' y hy' e

/-- A field of what is there, and the thing's. -/
theorem Is.at {t : Th} {o : Ob} (h : Is T loc t o) {j : Nat} {x : Int} (hx : t.is[j]? = some x) : ∃ v, o.fs[j]? = some v ∧ FM T loc x v := by
  have hj := (List.getElem?_eq_some_iff.1 hx).1
  have hj' : j < o.fs.length := by rw [h.len]; exact hj
  exact ⟨_, List.getElem?_eq_getElem hj', h.fld j x _ hx (List.getElem?_eq_getElem hj')⟩
theorem Is.of {t : Th} {o : Ob} (h : Is T loc t o) {v : Vl} (hv : v ∈ o.fs) : ∃ x ∈ t.is, FM T loc x v := by
  obtain ⟨j, hj⟩ := List.getElem?_of_mem hv
  have hl := (List.getElem?_eq_some_iff.1 hj).1
  have hl' : j < t.is.length := by rw [← h.len]; exact hl
  exact ⟨_, List.getElem_mem hl', h.fld j _ v (List.getElem?_eq_getElem hl') hj⟩
theorem zi_shut (hz : ZI H nu ol T Z loc) : PlL.Shut T := fun t ht hth x hx => by
  obtain ⟨i, hi⟩ := List.getElem?_of_mem ht
  obtain ⟨j, hj⟩ := List.getElem?_of_mem hx
  obtain ⟨v, _, hf⟩ := Is.at (hz.obj i t hi hth).2.2 hj
  rcases hf with ⟨rfl, _⟩ | ⟨h, _⟩ | ⟨a, u, h1, h2, h3, _⟩
  · exact .inl (Int.le_refl _)
  · exact .inl (by omega)
  · exact .inr ⟨a, u, h1, h2, h3⟩

/-- What the roots lead to is what is kept. -/
theorem led_iff (hz : ZI H nu ol T Z loc) {S : Ob → Prop} {xs s : List Int} (hL : Led T xs [] s) (hfit : ∀ x ∈ xs, Fit T x)
    (hclosed : ∀ o ∈ nu ++ ol, S o → ∀ v ∈ o.fs, v.k = 4 → ∀ x ∈ nu ++ ol, v.n = (x.addr : Int) → S x)
    (hroots : ∀ a : Nat, (a : Int) + 1 ∈ xs → S (loc a))
    (hleast : ∀ P : Ob → Prop, (∀ o ∈ nu ++ ol, P o → ∀ v ∈ o.fs, v.k = 4 → ∀ x ∈ nu ++ ol, v.n = (x.addr : Int) → P x) → (∀ a : Nat, (a : Int) + 1 ∈ xs → P (loc a)) → ∀ o, S o → P o) :
    ∀ (i : Nat) (t : Th), T[i]? = some t → t.here = true → ((i : Int) ∈ s ↔ S (loc i)) := by
  intro i t ht hth
  constructor
  · intro hi
    have hP := hL.least (fun a => ∃ (n : Nat) (u : Th), a = (n : Int) ∧ T[n]? = some u ∧ u.here = true ∧ S (loc n)) (fun a ha u hu y hy h1 => by
      obtain ⟨n, u', rfl, hu', huh, hS⟩ := ha
      rw [Int.toNat_natCast, hu'] at hu
      cases hu
      have ho := hz.obj n u hu' huh
      obtain ⟨j, hj⟩ := List.getElem?_of_mem hy
      obtain ⟨v, hv, hf⟩ := Is.at ho.2.2 hj
      rcases hf with ⟨rfl, _⟩ | ⟨h, _⟩ | ⟨b, q, h2, h3, h4, h5⟩
      · omega
      · omega
      · subst h5
        exact ⟨b, q, by omega, h3, h4, hclosed (loc n) ho.1 hS _ (List.mem_of_getElem? hv) rfl (loc b) (hz.obj b q h3 h4).1 rfl⟩) (fun x hx h1 => by
      rcases hfit x hx with h | ⟨a, u, h2, h3, h4⟩
      · omega
      · subst h2
        exact ⟨a, u, by omega, h3, h4, hroots a hx⟩) i hi (by simp)
    obtain ⟨n, u, e, _, _, hS⟩ := hP
    have e' : i = n := by omega
    subst e'
    exact hS
  · intro hS
    have hP := hleast (fun o => ∃ (n : Nat) (u : Th), T[n]? = some u ∧ u.here = true ∧ loc n = o ∧ (n : Int) ∈ s) (fun o ho ha v hv hk x hx hn => by
      obtain ⟨n, u, hu, huh, rfl, hns⟩ := ha
      obtain ⟨y, hy, hf⟩ := Is.of (hz.obj n u hu huh).2.2 hv
      rcases hf with ⟨_, rfl⟩ | ⟨_, h⟩ | ⟨b, q, h2, h3, h4, h5⟩
      · exact absurd hk (by decide)
      · rw [h] at hk
        exact absurd hk (by decide)
      · subst h5
        have hn' : ((loc b).addr : Int) = (x.addr : Int) := hn
        have e := hz.hi.apart (loc b) (hz.obj b q h3 h4).1 x hx (by omega)
        have h6 := hL.shut n hns (by simp) u (by rw [Int.toNat_natCast]; exact hu) y hy (by omega)
        refine ⟨b, q, h3, h4, e, ?_⟩
        rwa [h2, Int.add_sub_cancel] at h6) (fun a ha => by
      rcases hfit _ ha with h | ⟨b, u, h2, h3, h4⟩
      · omega
      · have e : a = b := by omega
        subst e
        have h6 := hL.root _ ha (by omega)
        rw [Int.add_sub_cancel] at h6
        exact ⟨a, u, h3, h4, rfl, h6⟩) (loc i) hS
    obtain ⟨n, u, hu, huh, e, hns⟩ := hP
    have e' := hz.inj n i u t hu ht huh hth e
    subst e'
    exact hns

/-- Identities are apart. -/
theorem ids_lt (hz : ZI H nu ol T Z loc) {i j : Nat} {t u : Th} (hij : i < j) (ht : T[i]? = some t) (hu : T[j]? = some u) (h0 : 0 < t.id) (h1 : 0 < u.id) : t.id < u.id := by
  have k0 := (ZI.idpos hz ht).1 h0
  have k1 := (ZI.idpos hz hu).1 h1
  have e0 := hz.ids i t ht
  have e1 := hz.ids j u hu
  rw [if_neg k0] at e0
  rw [if_neg k1] at e1
  have hil := (List.getElem?_eq_some_iff.1 ht).1
  have h2 : (T.take (i + 1)).countP ided = (T.take i).countP ided + 1 := by
    rw [List.take_add_one, ht, List.countP_append]
    simp [ided, k0]
  have h3 : (T.take (i + 1)).countP ided ≤ (T.take j).countP ided := by
    have h4 : T.take (i + 1) = (T.take j).take (i + 1) := by rw [List.take_take, Nat.min_eq_left (by omega)]
    rw [h4]
    exact List.Sublist.countP_le (List.take_sublist _ _)
  omega
theorem ids_inj (hz : ZI H nu ol T Z loc) {i j : Nat} {t u : Th} (ht : T[i]? = some t) (hu : T[j]? = some u) (e : t.id = u.id) (h0 : 0 < t.id) : i = j := by
  rcases Nat.lt_trichotomy i j with h | h | h
  · have := ids_lt hz h ht hu h0 (by omega)
    omega
  · exact h
  · have := ids_lt hz h hu ht (by omega) h0
    omega

/-- The cells of some things, and of their objects. -/
theorem cells_total {q : Nat → Bool} {O : List Ob} (hnd : O.Nodup) (hin : ∀ i t, T[i]? = some t → (t.here && q i) = true → loc i ∈ O ∧ (loc i).fs.length = t.is.length) (hall : ∀ o ∈ O, ∃ i t, T[i]? = some t ∧ (t.here && q i) = true ∧ loc i = o)
    (hinj : ∀ i j t u, T[i]? = some t → T[j]? = some u → (t.here && q i) = true → (u.here && q j) = true → loc i = loc j → i = j) : cellsOf T q T.length = (total O : Int) := by
  have key : ∀ n, n ≤ T.length → ∃ K : List Ob, cellsOf T q n = (total K : Int) ∧ K.Nodup ∧ ∀ o, o ∈ K ↔ ∃ i t, i < n ∧ T[i]? = some t ∧ (t.here && q i) = true ∧ loc i = o := by
    intro n
    induction n with
    | zero => exact fun _ => ⟨[], rfl, List.nodup_nil, fun o => ⟨fun h => (by cases h), fun ⟨_, _, h, _⟩ => absurd h (Nat.not_lt_zero _)⟩⟩
    | succ n ih =>
      intro hn
      obtain ⟨K, h1, h2, h3⟩ := ih (by omega)
      obtain ⟨t, ht⟩ : ∃ t, T[n]? = some t := ⟨_, List.getElem?_eq_getElem (by omega)⟩
      rw [cellsOf_succ ht, h1]
      by_cases hq : (t.here && q n) = true
      · rw [if_pos hq]
        refine ⟨loc n :: K, ?_, List.nodup_cons.mpr ⟨fun hk => ?_, h2⟩, fun o => ?_⟩
        · rw [total_cons, Ob.len, (hin n t ht hq).2]
          omega
        · obtain ⟨i, u, hi, hu, hqu, e⟩ := (h3 _).1 hk
          have := hinj i n u t hu ht hqu hq e
          omega
        · rw [List.mem_cons, h3]
          constructor
          · rintro (rfl | ⟨i, u, hi, hh⟩)
            · exact ⟨n, t, by omega, ht, hq, rfl⟩
            · exact ⟨i, u, by omega, hh⟩
          · rintro ⟨i, u, hi, hu, hqu, e⟩
            by_cases ei : i = n
            · subst ei
              exact .inl e.symm
            · exact .inr ⟨i, u, by omega, hu, hqu, e⟩
      · rw [if_neg hq, Int.add_zero]
        refine ⟨K, rfl, h2, fun o => (h3 o).trans ?_⟩
        constructor
        · rintro ⟨i, u, hi, hh⟩
          exact ⟨i, u, by omega, hh⟩
        · rintro ⟨i, u, hi, hu, hqu, e⟩
          by_cases ei : i = n
          · subst ei
            rw [ht] at hu
            cases hu
            exact absurd hqu hq
          · exact ⟨i, u, by omega, hu, hqu, e⟩
  obtain ⟨K, h1, h2, h3⟩ := key T.length (Nat.le_refl _)
  rw [h1]
  congr 1
  refine total_perm ((List.perm_ext_iff_of_nodup h2 hnd).2 fun o => (h3 o).trans ⟨?_, fun ho => ?_⟩)
  · rintro ⟨i, t, _, ht, hq, rfl⟩
    exact (hin i t ht hq).1
  · obtain ⟨i, t, ht, hq, e⟩ := hall o ho
    exact ⟨i, t, (List.getElem?_eq_some_iff.1 ht).1, ht, hq, e⟩

/-! ### behind a collection -/
structure Coll (H H' : HS) (nu ol kept L : List Ob) (from_ : Int → Bool) (z : Nat) : Prop where
  k : Kept H nu ol from_ L kept z
  hi : HI H' [] ((kept ++ L).map (mvO from_ L z))
  room : H'.room = H.room
  most : H'.most = H.most
  next : H'.next = H.next
/-- A thing behind it. -/
structure Aft (loc' : Nat → Ob) (s : List Int) (i : Nat) (t t' : Th) : Prop where
  kind : t'.kind = t.kind
  tag : t'.tag = t.tag
  id : t'.id = t.id
  is : t'.is = t.is
  here : t'.here = (t.here && decide ((i : Int) ∈ s))
  old : t'.old = t'.here
  known : t'.known = true → t'.here = true ∧ t'.wv = refV (loc' i)
theorem mv_ref (from_ : Int → Bool) (L : List Ob) (z : Nat) (x : Ob) : mvV from_ L z (refV x) = refV (mvO from_ L z x) := by
  unfold mvV refV mvO mvA
  by_cases h : from_ (x.addr : Int) = true
  · rw [if_pos ⟨rfl, h⟩]
    simp only [if_pos h]
    rfl
  · rw [if_neg (fun hh => h hh.2)]
    simp only [if_neg h]
variable {kept L : List Ob} {from_ : Int → Bool} {z : Nat} {s : List Int}
theorem coll_nodup (hC : Coll H H' nu ol kept L from_ z) : (kept ++ L).Nodup := by
  have h1 := laid_nodup hC.hi.oa
  exact List.Pairwise.of_map (mvO from_ L z) (fun a b h e => h (congrArg _ e)) h1
theorem coll_inj (hC : Coll H H' nu ol kept L from_ z) {x y : Ob} (hx : x ∈ kept ++ L) (hy : y ∈ kept ++ L) (e : mvO from_ L z x = mvO from_ L z y) : x = y := inj_of_nodup (laid_nodup hC.hi.oa) x hx y hy e
/-- What At tells of a thing, behind it. -/
theorem at_says (hz : ZI H nu ol T Z loc) (hC : Coll H H' nu ol kept L from_ z) (hiff : ∀ (i : Nat) (t : Th), T[i]? = some t → t.here = true → ((i : Int) ∈ s ↔ loc i ∈ kept ++ L)) {i : Nat} {t : Th} (ht : T[i]? = some t) (h0 : 0 < t.id) {b : Bool} {c : Int}
    (hb : b = true ↔ t.id ≠ 0 ∧ ∃ o ∈ [] ++ (kept ++ L).map (mvO from_ L z), o.id = t.id) (hc : b = true → ∃ o ∈ [] ++ (kept ++ L).map (mvO from_ L z), o.id = t.id ∧ c = (o.addr : Int)) :
    b = (t.here && decide ((i : Int) ∈ s)) ∧ (b = true → c = ((mvO from_ L z (loc i)).addr : Int)) := by
  have main : ∀ o ∈ [] ++ (kept ++ L).map (mvO from_ L z), o.id = t.id → o = mvO from_ L z (loc i) ∧ t.here = true ∧ (i : Int) ∈ s := by
    intro o ho e
    obtain ⟨x, hx, rfl⟩ := List.mem_map.mp (show o ∈ (kept ++ L).map (mvO from_ L z) from ho)
    obtain ⟨j, u, hu, huh, rfl⟩ := hz.all x (hC.k.mem hx)
    have h2 := (hz.obj j u hu huh).2.2.id
    have h3 : (loc j).id = t.id := e
    have e2 := ids_inj hz ht hu (by omega) h0
    subst e2
    rw [ht] at hu
    cases hu
    exact ⟨rfl, huh, (hiff i t ht huh).2 hx⟩
  constructor
  · rw [Bool.eq_iff_iff, hb]
    constructor
    · rintro ⟨_, o, ho, e⟩
      obtain ⟨_, h2, h3⟩ := main o ho e
      simp [h2, h3]
    · intro hh
      have h2 : t.here = true ∧ (i : Int) ∈ s := by simpa using hh
      refine ⟨by omega, mvO from_ L z (loc i), List.mem_map.mpr ⟨loc i, (hiff i t ht h2.1).1 h2.2, rfl⟩, ?_⟩
      exact (hz.obj i t ht h2.1).2.2.id
  · intro hb'
    obtain ⟨o, ho, e, hcc⟩ := hc hb'
    rw [hcc, (main o ho e).1]

theorem zi_after (hz : ZI H nu ol T Z loc) (hC : Coll H H' nu ol kept L from_ z) {xs : List Int} (hL : Led T xs [] s) (hiff : ∀ (i : Nat) (t : Th), T[i]? = some t → t.here = true → ((i : Int) ∈ s ↔ loc i ∈ kept ++ L))
    (hlen : T'.length = T.length) (hA : ∀ i t, T[i]? = some t → ∃ t', T'[i]? = some t' ∧ Aft (fun i => mvO from_ L z (loc i)) s i t t')
    (h1 : Z'.most = Z.most) (h2 : Z'.room = Z.room) (h3 : Z'.top = 0) (h4 : Z'.old = cellsOf T' (fun _ => true) T'.length) (h5 : Z'.minors = (H'.minors : Int)) (h6 : Z'.majors = (H'.majors : Int)) :
    ZI H' [] ((kept ++ L).map (mvO from_ L z)) T' Z' (fun i => mvO from_ L z (loc i)) := by
  have back : ∀ {i : Nat} {t' : Th}, T'[i]? = some t' → ∃ t, T[i]? = some t ∧ Aft (fun i => mvO from_ L z (loc i)) s i t t' := by
    intro i t' h
    have hi := (List.getElem?_eq_some_iff.1 h).1
    obtain ⟨t, ht⟩ : ∃ t, T[i]? = some t := ⟨_, List.getElem?_eq_getElem (by omega)⟩
    obtain ⟨u, hu, ha⟩ := hA i t ht
    rw [h] at hu
    cases hu
    exact ⟨t, ht, ha⟩
  have hh : ∀ {i : Nat} {t' : Th}, T'[i]? = some t' → t'.here = true → ∃ t, T[i]? = some t ∧ Aft (fun i => mvO from_ L z (loc i)) s i t t' ∧ t.here = true ∧ (i : Int) ∈ s ∧ loc i ∈ kept ++ L := by
    intro i t' h hth
    obtain ⟨t, ht, ha⟩ := back h
    have h7 := ha.here
    rw [hth] at h7
    have h8 : t.here = true ∧ (i : Int) ∈ s := by simpa using h7.symm
    exact ⟨t, ht, ha, h8.1, h8.2, (hiff i t ht h8.1).1 h8.2⟩
  have hkinds : T'.map Th.kind = T.map Th.kind := by
    apply List.ext_getElem?
    intro i
    rw [List.getElem?_map, List.getElem?_map]
    cases ht : T[i]? with
    | none =>
      have h7 : T'[i]? = none := List.getElem?_eq_none (by have := List.getElem?_eq_none_iff.1 ht; omega)
      rw [h7]
    | some t =>
      obtain ⟨t', ht', ha⟩ := hA i t ht
      rw [ht']
      exact congrArg some ha.kind
  have hinj : ∀ i j t u, T'[i]? = some t → T'[j]? = some u → t.here = true → u.here = true → mvO from_ L z (loc i) = mvO from_ L z (loc j) → i = j := by
    intro i j t' u' hi hj hti huj e
    obtain ⟨t, ht, _, hth, _, hm⟩ := hh hi hti
    obtain ⟨u, hu, _, huh, _, hm'⟩ := hh hj huj
    exact hz.inj i j t u ht hu hth huh (coll_inj hC hm hm' e)
  have hobj : ∀ i t', T'[i]? = some t' → t'.here = true → mvO from_ L z (loc i) ∈ [] ++ (kept ++ L).map (mvO from_ L z) ∧ (t'.old = true ↔ mvO from_ L z (loc i) ∈ (kept ++ L).map (mvO from_ L z)) ∧ Is T' (fun i => mvO from_ L z (loc i)) t' (mvO from_ L z (loc i)) := by
    intro i t' ht' hth'
    obtain ⟨t, ht, ha, hth, his, hm⟩ := hh ht' hth'
    have hmem : mvO from_ L z (loc i) ∈ (kept ++ L).map (mvO from_ L z) := List.mem_map.mpr ⟨loc i, hm, rfl⟩
    have ho := hz.obj i t ht hth
    refine ⟨hmem, ⟨fun _ => hmem, fun _ => by rw [ha.old]; exact hth'⟩, ?_⟩
    refine ⟨ho.2.2.kind.trans ha.kind.symm, ho.2.2.tag.trans ha.tag.symm, ho.2.2.id.trans ha.id.symm, ?_, fun j x v hx hv => ?_⟩
    · rw [ha.is]
      show ((loc i).fs.map _).length = _
      rw [List.length_map]
      exact ho.2.2.len
    · rw [ha.is] at hx
      have hv' : ((loc i).fs.map (mvV from_ L z))[j]? = some v := hv
      rw [List.getElem?_map] at hv'
      obtain ⟨v0, hv0, e⟩ := Option.map_eq_some_iff.1 hv'
      subst e
      rcases ho.2.2.fld j x v0 hx hv0 with ⟨h7, h8⟩ | ⟨h7, h8⟩ | ⟨b, u, h7, h8, h9, h10⟩
      · exact .inl ⟨h7, by rw [h8]; exact mvV_id (by decide)⟩
      · exact .inr (.inl ⟨h7, by rw [mvV_k]; exact h8⟩)
      · obtain ⟨u', hu', hau⟩ := hA b u h8
        have h11 := hL.shut i his (by simp) t (by rw [Int.toNat_natCast]; exact ht) x (List.mem_of_getElem? hx) (by omega)
        have h12 : (b : Int) ∈ s := by rwa [h7, Int.add_sub_cancel] at h11
        exact .inr (.inr ⟨b, u', h7, hu', by rw [hau.here, h9]; simpa using h12, by rw [h10]; exact mv_ref _ _ _ _⟩)
  have hall : ∀ o ∈ [] ++ (kept ++ L).map (mvO from_ L z), ∃ i t, T'[i]? = some t ∧ t.here = true ∧ mvO from_ L z (loc i) = o := by
    intro o ho
    obtain ⟨x, hx, rfl⟩ := List.mem_map.mp (show o ∈ (kept ++ L).map (mvO from_ L z) from ho)
    obtain ⟨i, t, ht, hth, rfl⟩ := hz.all x (hC.k.mem hx)
    obtain ⟨t', ht', ha⟩ := hA i t ht
    refine ⟨i, t', ht', ?_, rfl⟩
    rw [ha.here, hth]
    simpa using (hiff i t ht hth).2 hx
  refine ⟨hC.hi, hobj, hinj, hall, ?_, ?_, ?_, ?_, ?_, ?_, ?_, ?_, ?_, ?_, h5, h6⟩
  · intro i t' ht' hk
    obtain ⟨t, ht, ha⟩ := back ht'
    exact ha.known hk
  · intro t' ht' ho
    obtain ⟨i, hi⟩ := List.getElem?_of_mem ht'
    obtain ⟨t, ht, ha⟩ := back hi
    rw [← ha.old]
    exact ho
  · intro i t' ht'
    obtain ⟨t, ht, ha⟩ := back ht'
    rw [ha.id, ha.kind, hz.ids i t ht, countP_ided, countP_ided, List.map_take, List.map_take, hkinds]
  · rw [hC.next, hz.next, countP_ided, countP_ided, hkinds]
  · intro t' ht'
    obtain ⟨i, hi⟩ := List.getElem?_of_mem ht'
    obtain ⟨t, ht, ha⟩ := back hi
    rw [ha.kind]
    exact hz.kinds t (List.mem_of_getElem? ht)
  · intro t' ht'
    obtain ⟨i, hi⟩ := List.getElem?_of_mem ht'
    obtain ⟨t, ht, ha⟩ := back hi
    rw [ha.is]
    exact hz.len t (List.mem_of_getElem? ht)
  · rw [h1, hz.most, hC.most]
  · rw [h2, hz.room, hC.room]
  · rw [h3]
    rfl
  · rw [h4]
    refine cells_total (loc := fun i => mvO from_ L z (loc i)) (laid_nodup hC.hi.oa) (fun i t ht hq => ?_) (fun o ho => ?_) (fun i j t u ht hu hq hq' e => ?_)
    · have hth : t.here = true := by simpa using hq
      exact ⟨(hobj i t ht hth).1, (hobj i t ht hth).2.2.len⟩
    · obtain ⟨i, t, ht, hth, e⟩ := hall o ho
      exact ⟨i, t, ht, by simpa using hth, e⟩
    · exact hinj i j t u ht hu (by simpa using hq) (by simpa using hq') e
end Go.Proofs.YthbkklnahhdgcaaDoor.PlG

namespace Go.Proofs.YthbkklnahhdgcaaDoor.PlE
open Go Go.Proofs Go.RowKit Go.Maps Go.Proofs.YthbkklnahhdgcaaDoor.Lib HeapR HeapB HeapC HeapD HeapG HeapH ErrC ChA ChT ChCa ChCc ChE ChH ChI ChK ChL ChN ChO ChP ChR ChV ChW ChZ PlT PlZ PlU PlQ PlL PlLa PlLb PlLc PlLd

/-- A root more, and the number of a thing that is held. -/
structure More (w0 : World) (B0 : Nat) (vA vB : Value) (n : Nat) (xsA xsB : List Value) (gH i : Nat) (gA kA gB kB : Nat) (w' : World) : Prop where
  rowA : w'.ownsRow B0 208 1 (.slice (some ⟨gA, 0, none⟩) (n + 1) kA) (n + 1) xsA
  rowB : w'.ownsRow B0 3 1 (.slice (some ⟨gB, 0, none⟩) (n + 1) kB) (n + 1) xsB
  wk : ∃ wk, Turned (fun k => vA.ownBlock = some k ∨ vB.ownBlock = some k) w0 wk ∧ w' = wk.setCell ⟨gH, i, none⟩ (.bool true)
  atA : vA.ownBlock = some gA ∨ w0.heap.size ≤ gA
  atB : vB.ownBlock = some gB ∨ w0.heap.size ≤ gB
  ne : gA ≠ gB
theorem sel_app {Q : Exit → Act → World → Prop} {u0 u1 u4 u9 Ja Jb Jc Jd Je Jf Jg Jh Ji Jj Jk Jl Jm Jn Jo Jp Jq Jr Js Jt Ju Jv Jw Jx Jy Jz Qa Qb Qc Qd Qe Qf Qg Qh Qi Qj Qk Ql Qm Qn Qo Qp Qq Qr Qs Qt Qu Qv Qw Qx Qy Qz Xe Xg Xh Xi Xj Xk Xn Xo Xp Xq Xt Xu Xv Xx Xy Xz Yg Yh Yi Yj Yk Yl Ym Yn Yo Yp Yq Yr Ys Yt Yu Yv Yw Yx Yy Yz Ua Ub Uc Ud Ue Uf Ug Uh Ui Uj Uk Ul Um Un Uo Up Uq Ur Us Ut Uu Uv Uw Ux Uy Uz Wc Wd We Wf Wg Wh Wi Wj Wk Wl Wm Wn Wo Wp Wq Wt Wu Ww Wx Wy Wz Ka Kb Kc Kd Ke Kf Kg Kh Kj Kl Km Kn Ko Kp Kq Kr Kt Ku Kv Kw Kx Ky Kz Rg Rh Ri Rj Rk Rl Rm Rp Rq Rt Ru Rx Ry Rz Gc Ge Gf Gg Gh Gi Gj Gm Gn Gp Gq Gt Gu Gv Gx Gy Gz Fe Ff Fg Fh Fi Fj Fk Fm Fo Fp Fq Fs Ft Fu Fv Fw Fx Fy Fz Ec Ee Ef Eg Eh Ei Ej Ek Em En Eo Ep Eu Ev Ex Ey Ez Da Db Dc Dd Dg Dh Di Dj Dk Dl Dm Dn Do Dp Dq Dt Du Dv Dw Dx Dy Dz Pa Pb Pc Pe Pf Pg Ph Pi Pj Pk Pm Pn Po Pq Ps Pt Pu Pv Pw Px Py Pz Na : Value} (w0 : World) (B0 zx zb sx gW cW gH cH i n N cA cB : Nat) (oaA oaB : Option Addr) (xsA xsB : List Value)
    (hx : w0.cell? ⟨zx, 0, none⟩ = some (.pointer (some ⟨zb, 0, none⟩))) (hz2 : w0.cell? ⟨zb, 2, none⟩ = some (.slice (some ⟨gW, 0, none⟩) N cW)) (hiN : i < N) (hN : N ≤ 1000)
    (hrA : w0.ownsRow B0 208 1 (Value.slice oaA n cA) n xsA) (hrB : w0.ownsRow B0 3 1 (Value.slice oaB n cB) n xsB)
    (bv : Bool) (hH : w0.cell? ⟨gH, i, none⟩ = some (.bool bv)) (hHf : w0.frozen? ⟨gH, i, none⟩ = false) (hHA : (Value.slice oaA n cA).ownBlock ≠ some gH) (hHB : (Value.slice oaB n cB).ownBlock ≠ some gH)
    (hBz : B0 ≤ w0.heap.size) (hAB : ∀ k, (Value.slice oaA n cA).ownBlock = some k → (Value.slice oaB n cB).ownBlock ≠ some k) (hn : n ≤ big)
    (hQ : ∀ (s49 s50 s51 s52 s53 s54 s55 s56 s57 s58 s59 s60 s61 s62 s63 s64 s65 : Value) (gA kA gB kB : Nat) (w' : World), More w0 B0 (Value.slice oaA n cA) (Value.slice oaB n cB) n (xsA ++ [.pointer (some ⟨gW, i * 3, none⟩)]) (xsB ++ [.int .i64 ((i : Int) + 1)]) gH i gA kA gB kB w' → Q .normal ⟨#[u0,u1,(.pointer (some ⟨zx,0,none⟩)),(.pointer (some ⟨sx,0,none⟩)),u4,(.slice (some ⟨gA,0,none⟩) (n + 1) kA),(.slice (some ⟨gB,0,none⟩) (n + 1) kB),(.slice (some ⟨gH,0,none⟩) N cH),(.int .i64 (i : Int)),u9,Ja,Jb,Jc,Jd,Je,Jf,Jg,Jh,Ji,Jj,Jk,Jl,Jm,Jn,Jo,Jp,Jq,Jr,Js,Jt,Ju,Jv,Jw,Jx,Jy,Jz,Qa,Qb,Qc,Qd,Qe,Qf,Qg,Qh,Qi,Qj,Qk,Ql,Qm,(s49),(s50),(s51),(s52),(s53),(s54),(s55),(s56),(s57),(s58),(s59),(s60),(s61),(s62),(s63),(s64),(s65),Xj,Xk,Xn,Xo,Xp,Xq,Xt,Xu,Xv,Xx,Xy,Xz,Yg,Yh,Yi,Yj,Yk,Yl,Ym,Yn,Yo,Yp,Yq,Yr,Ys,Yt,Yu,Yv,Yw,Yx,Yy,Yz,Ua,Ub,Uc,Ud,Ue,Uf,Ug,Uh,Ui,Uj,Uk,Ul,Um,Un,Uo,Up,Uq,Ur,Us,Ut,Uu,Uv,Uw,Ux,Uy,Uz,Wc,Wd,We,Wf,Wg,Wh,Wi,Wj,Wk,Wl,Wm,Wn,Wo,Wp,Wq,Wt,Wu,Ww,Wx,Wy,Wz,Ka,Kb,Kc,Kd,Ke,Kf,Kg,Kh,Kj,Kl,Km,Kn,Ko,Kp,Kq,Kr,Kt,Ku,Kv,Kw,Kx,Ky,Kz,Rg,Rh,Ri,Rj,Rk,Rl,Rm,Rp,Rq,Rt,Ru,Rx,Ry,Rz,Gc,Ge,Gf,Gg,Gh,Gi,Gj,Gm,Gn,Gp,Gq,Gt,Gu,Gv,Gx,Gy,Gz,Fe,Ff,Fg,Fh,Fi,Fj,Fk,Fm,Fo,Fp,Fq,Fs,Ft,Fu,Fv,Fw,Fx,Fy,Fz,Ec,Ee,Ef,Eg,Eh,Ei,Ej,Ek,Em,En,Eo,Ep,Eu,Ev,Ex,Ey,Ez,Da,Db,Dc,Dd,Dg,Dh,Di,Dj,Dk,Dl,Dm,Dn,Do,Dp,Dq,Dt,Du,Dv,Dw,Dx,Dy,Dz,Pa,Pb,Pc,Pe,Pf,Pg,Ph,Pi,Pj,Pk,Pm,Pn,Po,Pq,Ps,Pt,Pu,Pv,Pw,Px,Py,Pz,Na], []⟩ w') :
    Code.wp Tryd.prog (Cut.piece Tryd.f73 (Cut.region 8)) Q ⟨#[u0,u1,(.pointer (some ⟨zx,0,none⟩)),(.pointer (some ⟨sx,0,none⟩)),u4,(.slice oaA n cA),(.slice oaB n cB),(.slice (some ⟨gH,0,none⟩) N cH),(.int .i64 (i : Int)),u9,Ja,Jb,Jc,Jd,Je,Jf,Jg,Jh,Ji,Jj,Jk,Jl,Jm,Jn,Jo,Jp,Jq,Jr,Js,Jt,Ju,Jv,Jw,Jx,Jy,Jz,Qa,Qb,Qc,Qd,Qe,Qf,Qg,Qh,Qi,Qj,Qk,Ql,Qm,Qn,Qo,Qp,Qq,Qr,Qs,Qt,Qu,Qv,Qw,Qx,Qy,Qz,Xe,Xg,Xh,Xi,Xj,Xk,Xn,Xo,Xp,Xq,Xt,Xu,Xv,Xx,Xy,Xz,Yg,Yh,Yi,Yj,Yk,Yl,Ym,Yn,Yo,Yp,Yq,Yr,Ys,Yt,Yu,Yv,Yw,Yx,Yy,Yz,Ua,Ub,Uc,Ud,Ue,Uf,Ug,Uh,Ui,Uj,Uk,Ul,Um,Un,Uo,Up,Uq,Ur,Us,Ut,Uu,Uv,Uw,Ux,Uy,Uz,Wc,Wd,We,Wf,Wg,Wh,Wi,Wj,Wk,Wl,Wm,Wn,Wo,Wp,Wq,Wt,Wu,Ww,Wx,Wy,Wz,Ka,Kb,Kc,Kd,Ke,Kf,Kg,Kh,Kj,Kl,Km,Kn,Ko,Kp,Kq,Kr,Kt,Ku,Kv,Kw,Kx,Ky,Kz,Rg,Rh,Ri,Rj,Rk,Rl,Rm,Rp,Rq,Rt,Ru,Rx,Ry,Rz,Gc,Ge,Gf,Gg,Gh,Gi,Gj,Gm,Gn,Gp,Gq,Gt,Gu,Gv,Gx,Gy,Gz,Fe,Ff,Fg,Fh,Fi,Fj,Fk,Fm,Fo,Fp,Fq,Fs,Ft,Fu,Fv,Fw,Fx,Fy,Fz,Ec,Ee,Ef,Eg,Eh,Ei,Ej,Ek,Em,En,Eo,Ep,Eu,Ev,Ex,Ey,Ez,Da,Db,Dc,Dd,Dg,Dh,Di,Dj,Dk,Dl,Dm,Dn,Do,Dp,Dq,Dt,Du,Dv,Dw,Dx,Dy,Dz,Pa,Pb,Pc,Pe,Pf,Pg,Ph,Pi,Pj,Pk,Pm,Pn,Po,Pq,Ps,Pt,Pu,Pv,Pw,Px,Py,Pz,Na], []⟩ w0 := by
  conv => arg 2; whnf
  obtain ⟨iA, hiA, hA0, hA1, hA2⟩ := info_parts (P := Tryd.prog) (e := 208) (by kernel_rfl : (Tryd.prog.info? 208).map (fun i => (i.zero, i.size, i.bytes)) = some (some (.pointer none), 1, 8))
  obtain ⟨iB, hiB, hB0, hB1, hB2⟩ := info_parts (P := Tryd.prog) (e := 3) (by kernel_rfl : (Tryd.prog.info? 3).map (fun i => (i.zero, i.size, i.bytes)) = some (some (.int .i64 0), 1, 8))
  have j0 : (0 : Int) ≤ (i : Int) := by omega
  have j1 : (i : Int) < (N : Int) := by omega
  have k1 : IntKind.i64.wrap ((i : Int) + 1) = (i : Int) + 1 := IntWalk.i64_in _ (by omega)
  have mA : n + 1 ≤ maxLen := by unfold big at hn; unfold maxLen; omega
  have nA : (n + 1) * 8 ≤ 140737488355328 := by unfold big at hn; omega
  have lA : ∀ k, (Value.slice oaA n cA).ownBlock = some k → k < w0.heap.size := fun k hk => (own_lt hrA hk).2
  have lB : ∀ k, (Value.slice oaB n cB).ownBlock = some k → k < w0.heap.size := fun k hk => (own_lt hrB hk).2
  have hHl : gH < w0.heap.size := World.block_lt_of_cell? w0 _ hH
  have hT1 := (Turned.refl (fun k => (Value.slice oaA n cA).ownBlock = some k ∨ (Value.slice oaB n cB).ownBlock = some k) w0).alloc (.cells #[.pointer (some ⟨gW, i * 3, none⟩)] 208 (0, 0))
  have HQ := Lib.hid hQ
  have A1 := Lib.hid lA
  have A2 := Lib.hid lB
  have A3 := Lib.hid hAB
  have A4 := Lib.hid hT1
  have A5 := Lib.hid hn
  have A6 := Lib.hid hrB
  clear hQ lA lB hAB hT1 hn hrB
  go_wp2_with (at_builtin; go_loud (refine wpList_append_lies _ rfl _ _ 207 rfl B0 208 iA (.pointer none) 1 8 Tryd.underlying207 hiA hA0 hA1 hA2 rfl (by decide) (Value.slice oaA n cA) n xsA rfl (hrA.alloc _) ⟨w0.heap.size, 0, none⟩ 1 1 [.pointer (some ⟨gW, i * 3, none⟩)] rfl rfl ?c1 ?c2 (by decide) mA nA ?c5 _ rfl ?grow))
  case c2 => first | rfl | (intro u hu; simp only [List.mem_cons, List.not_mem_nil, or_false] at hu; subst hu; rfl)
  case c5 => first | omega | (simp; omega)
  case grow =>
    intro gA kA w2 hrn hg hat hlt
    have hT2 := A4.out.grown hg (fun j hj => .inl (.inl hj))
    have hrB1 := A6.out.alloc (.cells #[.pointer (some ⟨gW, i * 3, none⟩)] 208 (0, 0))
    have hrB2 := ownsRow_same hrB1 (fun j hj => hg.block j (own_lt hrB1 hj).2 (fun e => A3.out j e.symm hj))
    have atA : (Value.slice oaA n cA).ownBlock = some gA ∨ w0.heap.size ≤ gA := hat.imp id (fun e => by rw [e]; simp)
    have hz2' := hT2.size
    have hT3 := hT2.alloc (.cells #[.int .i64 ((i : Int) + 1)] 3 (0, 0))
    have hrA3 := hrn.alloc (.cells #[.int .i64 ((i : Int) + 1)] 3 (0, 0))
    have hrB3 := hrB2.alloc (.cells #[.int .i64 ((i : Int) + 1)] 3 (0, 0))
    have hNB := heap_alloc_last w2 (.cells #[.int .i64 ((i : Int) + 1)] 3 (0, 0))
    have hBl := Nat.le_trans hBz hT3.size
    have C1 := Lib.hid hT3
    have C2 := Lib.hid hrA3
    have C3 := Lib.hid atA
    have C4 := Lib.hid hlt
    have C5 := Lib.hid hNB
    have C6 := Lib.hid hz2'
    clear hrn hg hat hlt hT2 hrB1 hrB2 hT3 hrA3 atA hrA hNB hz2'
    go_wp2_with (at_builtin; go_loud (refine wpList_append_lies _ rfl _ _ 52 rfl B0 3 iB (.int .i64 0) 1 8 Tryd.underlying52 hiB hB0 hB1 hB2 rfl (by decide) (Value.slice oaB n cB) n xsB rfl hrB3 ⟨w2.heap.size, 0, none⟩ 1 1 [.int .i64 ((i : Int) + 1)] rfl rfl ?d1 ?d2 (by decide) mA nA ?d5 _ rfl ?grow2))
    case d1 => exact World.news_of_block (cs := #[.int .i64 ((i : Int) + 1)]) (t := 3) (fr := (0, 0)) C5.out
    case d2 => first | rfl | (intro u hu; simp only [List.mem_cons, List.not_mem_nil, or_false] at hu; subst hu; rfl)
    case d5 => first | exact hBl | (have := C6.out; omega)
    case grow2 =>
      intro gB kB w4 hrn hg hat hlt
      have hT4 := C1.out.grown hg (fun j hj => .inl (.inr hj))
      have lB := A2.out
      have hrA4 := ownsRow_same C2.out (fun j hj => hg.block j (own_lt C2.out hj).2 (fun e => by
        have e1 : gA = j := Option.some.inj hj
        rcases C3.out with h | h
        · exact A3.out gA h (by rw [e1]; exact e.symm)
        · have := lB j e.symm
          omega))
      have hz3 : w0.heap.size ≤ w2.heap.size + 1 := Nat.le_succ_of_le C6.out
      have hl2 := C4.out
      have atB : (Value.slice oaB n cB).ownBlock = some gB ∨ w0.heap.size ≤ gB := hat.imp id (fun e => by rw [e]; exact hz3)
      have hne : gA ≠ gB := fun e => by
        rcases hat with h | h
        · rcases C3.out with h2 | h2
          · exact A3.out gA h2 (by rw [e]; exact h)
          · have := lB gB h
            omega
        · have h3 : gB = w2.heap.size + 1 := by simpa using h
          omega
      have hH4 : w4.cell? ⟨gH, i, none⟩ = some (.bool bv) := (hT4.cell (p := ⟨gH, i, none⟩) hHl (fun h => h.elim hHA hHB)).trans hH
      have hF4 : w4.frozen? ⟨gH, i, none⟩ = false := (World.frozen?_of_block (a := ⟨gH, i, none⟩) (hT4.block _ hHl (fun h => h.elim hHA hHB))).trans hHf
      have e1 : gA ≠ gH := fun e => by
        rcases C3.out with h | h
        · exact hHA (e ▸ h)
        · omega
      have e2 : gB ≠ gH := fun e => by
        rcases atB with h | h
        · exact hHB (e ▸ h)
        · omega
      have hfin : More w0 B0 (Value.slice oaA n cA) (Value.slice oaB n cB) n (xsA ++ [.pointer (some ⟨gW, i * 3, none⟩)]) (xsB ++ [.int .i64 ((i : Int) + 1)]) gH i gA kA gB kB (w4.setCell ⟨gH, i, none⟩ (.bool true)) := ⟨ownsRow_same hrA4 (fun k hk => blk_ne (fun e => e1 ((Option.some.inj hk).trans e))), ownsRow_same hrn (fun k hk => blk_ne (fun e => e2 ((Option.some.inj hk).trans e))), ⟨w4, hT4, rfl⟩, C3.out, atB, hne⟩
      have D1 := Lib.hid hfin
      clear hfin hrn hg hat hlt hT4 hrA4 atB hne hH hHf hrB3 hz3 lB hl2
      go_wp2
      exact HQ.out _ _ _ _ _ _ _ _ _ _ _ _ _ _ _ _ _ _ _ _ _ _ D1.out
end Go.Proofs.YthbkklnahhdgcaaDoor.PlE
