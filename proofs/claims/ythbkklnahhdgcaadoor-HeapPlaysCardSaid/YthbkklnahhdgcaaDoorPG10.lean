/-
  Package heap's Set over a heap as objects, wherever the object lies.
-/
import Derived.Test.YthbkklnahhdgcaaDoorPG09
import Derived.Test.YthbkklnahhdgcaaDoorPG08
import Derived.Test.YthbkklnahhdgcaaDoorPG07
import Derived.WalkSpells
import Derived.LaidEql
set_option maxRecDepth 100000
set_option maxHeartbeats 4000000
namespace Go.Proofs.YthbkklnahhdgcaaDoor.PlT
open Go Go.Proofs Go.RowKit Go.Maps Go.Proofs.YthbkklnahhdgcaaDoor.Lib HeapR HeapB HeapC HeapD HeapH ChA ChT ChCa ChCc ChE ChL ChN ChO ChR ChW ChZ PlH PlS

theorem setOb_not {l : List Ob} {a i : Nat} {v : Vl} (h : ∀ x ∈ l, x.addr ≠ a) : setOb l a i v = l := by
  unfold setOb
  have e : ∀ x ∈ l, (if x.addr = a then { x with fs := x.fs.set i v } else x : Ob) = x := fun x hx => if_neg (h x hx)
  rw [List.map_congr_left e, List.map_id']

variable {w : World} {hb nb mb : Nat} {ov rv : Value} {B : Nat} {H : HS} {nu ol : List Ob}
/-- A field of an old object was set. -/
theorem hi_setO (hi : HI H nu ol) {o : Ob} (ho : o ∈ ol) {i : Nat} (hil : i < o.fs.length) (v : Vl) (hv : v.k = 4 → ∃ x ∈ nu ++ ol, v.n = (x.addr : Int)) : HI (H.setO (o.addr - H.room + 1 + i) v.k v.n v.s) nu (setOb ol o.addr i v) := by
  have hto : ∀ {y : Ob}, y ∈ nu ++ setOb ol o.addr i v → ∃ x ∈ nu ++ ol, y.addr = x.addr ∧ y.id = x.id ∧ y.kind = x.kind ∧ (y = x ∨ (x.addr = o.addr ∧ y.fs = x.fs.set i v)) := fun {y} hy => by
    rcases List.mem_append.mp hy with hy | hy
    · exact ⟨y, List.mem_append.mpr (Or.inl hy), rfl, rfl, rfl, Or.inl rfl⟩
    · obtain ⟨x, hx, e1, e2, e3, e4⟩ := mem_setOb hy
      refine ⟨x, List.mem_append.mpr (Or.inr hx), e1, e2, e3, ?_⟩
      by_cases ha : x.addr = o.addr
      · rw [if_pos ha] at e4
        exact Or.inr ⟨ha, by rw [e4]⟩
      · rw [if_neg ha] at e4
        exact Or.inl e4
  have hfrom : ∀ {x : Ob}, x ∈ nu ++ ol → ∃ y ∈ nu ++ setOb ol o.addr i v, y.addr = x.addr ∧ y.id = x.id := fun {x} hx => by
    rcases List.mem_append.mp hx with hx | hx
    · exact ⟨x, List.mem_append.mpr (Or.inl hx), rfl, rfl⟩
    · obtain ⟨y, hy, e⟩ := setOb_mem o.addr i v hx
      exact ⟨y, List.mem_append.mpr (Or.inr hy), e⟩
  have hin := laid_in hi.oa ho
  have hol := hi.olen
  have holn : o.len = 1 + o.fs.length := rfl
  have hrem : ∀ r ∈ H.rem, r ∈ (H.setO (o.addr - H.room + 1 + i) v.k v.n v.s).rem := fun r hr => by
    show r ∈ (if v.k = 4 ∧ v.n < (H.room : Int) then _ else _)
    split
    · exact List.mem_append.mpr (Or.inl hr)
    · exact hr
  exact {
    nur := hi.nur
    old := by
      show H.old.modify _ _ = _
      rw [hi.old, flat_set hi.oa ho hil v]
    tlen := hi.tlen
    na := hi.na
    oa := laid_setOb hi.oa _ _ _
    fit := hi.fit
    refs := fun y hy u hu hk => by
      obtain ⟨x, hx, _, _, _, hh⟩ := hto hy
      have hres : ∃ t ∈ nu ++ ol, u.n = (t.addr : Int) := by
        rcases hh with rfl | ⟨_, e⟩
        · exact hi.refs y hx u hu hk
        · rw [e] at hu
          rcases List.mem_or_eq_of_mem_set hu with hu | rfl
          · exact hi.refs x hx u hu hk
          · exact hv hk
      obtain ⟨t, ht, e⟩ := hres
      obtain ⟨t', ht', e1, _⟩ := hfrom ht
      exact ⟨t', ht', by rw [e1]; exact e⟩
    rem1 := fun r hr => by
      have hlen : (H.setO (o.addr - H.room + 1 + i) v.k v.n v.s).old.length = H.old.length := List.length_modify ..
      rw [hlen]
      have hr' : r ∈ (if v.k = 4 ∧ v.n < (H.room : Int) then H.rem ++ [(H.room : Int) + ((o.addr - H.room + 1 + i : Nat) : Int)] else H.rem) := hr
      split at hr'
      · rcases List.mem_append.mp hr' with h1 | h1
        · exact hi.rem1 r h1
        · refine ⟨o.addr - H.room + 1 + i, ?_, by omega⟩
          rw [List.mem_singleton.mp h1]
          show _ = ((H.room + _ : Nat) : Int)
          omega
      · exact hi.rem1 r hr'
    rem2 := fun j c hj hk hn => by
      have hj' : (H.old.modify (o.addr - H.room + 1 + i) fun d => { d with vk := v.k, vn := v.n, vs := v.s })[j]? = some c := hj
      rw [List.getElem?_modify] at hj'
      show ((H.room + j : Nat) : Int) ∈ _
      by_cases hjm : o.addr - H.room + 1 + i = j
      · subst hjm
        simp only [if_true] at hj'
        cases hd : H.old[o.addr - H.room + 1 + i]? with
        | none => rw [hd] at hj'; cases hj'
        | some d =>
          rw [hd] at hj'
          have hc : c = { d with vk := v.k, vn := v.n, vs := v.s } := by simpa using hj'.symm
          subst hc
          show _ ∈ (if v.k = 4 ∧ v.n < (H.room : Int) then _ else _)
          rw [if_pos ⟨hk, hn⟩]
          refine List.mem_append.mpr (Or.inr (List.mem_singleton.mpr ?_))
          omega
      · simp only [if_neg hjm] at hj'
        exact hrem _ (hi.rem2 j c (by simpa using hj') hk hn)
    wh := by
      obtain ⟨g, hg1, hg2⟩ := hi.wh
      refine ⟨g, hg1, fun id c => (hg2 id c).trans ⟨?_, ?_⟩⟩
      · rintro ⟨h0, x, hx, e1, e2⟩
        obtain ⟨y, hy, f1, f2⟩ := hfrom hx
        exact ⟨h0, y, hy, f2.trans e1, by rw [f1]; exact e2⟩
      · rintro ⟨h0, y, hy, e1, e2⟩
        obtain ⟨x, hx, f1, f2, _⟩ := hto hy
        exact ⟨h0, x, hx, f2.symm.trans e1, by rw [← f1]; exact e2⟩
    ids := fun y hy => by
      obtain ⟨x, hx, _, f2, _⟩ := hto hy
      rw [f2]
      exact hi.ids x hx
    named := fun a ha b hb e h0 => by
      have hA : Apart (nu ++ setOb ol o.addr i v) := fun a ha b hb e => by
        have hfit := hi.fit
        rcases List.mem_append.mp ha with ha | ha <;> rcases List.mem_append.mp hb with hb | hb
        · exact laid_apart hi.na a ha b hb e
        · have h1 := laid_in hi.na ha
          have h2 := laid_in (laid_setOb hi.oa o.addr i v) hb
          have := len_pos a
          omega
        · have h1 := laid_in hi.na hb
          have h2 := laid_in (laid_setOb hi.oa o.addr i v) ha
          have := len_pos b
          omega
        · exact laid_apart (laid_setOb hi.oa _ _ _) a ha b hb e
      obtain ⟨x, hx, f1, f2, _⟩ := hto ha
      obtain ⟨y, hy, g1, g2, _⟩ := hto hb
      have := hi.named x hx y hy (f2.symm.trans (e.trans g2)) (by rw [← f2]; exact h0)
      subst this
      exact hA a ha b hb (f1.trans g1.symm)
    kinds := fun y hy => by
      obtain ⟨x, hx, _, _, f3, _⟩ := hto hy
      rw [f3]
      exact hi.kinds x hx }

/-- What Set leaves as it is. -/
structure SetLike (H H' : HS) : Prop where
  top : H'.top = H.top
  room : H'.room = H.room
  most : H'.most = H.most
  next : H'.next = H.next
  minors : H'.minors = H.minors
  majors : H'.majors = H.majors
  oldl : H'.old.length = H.old.length
  reml : H'.rem.length ≤ H.rem.length + 1

/-- Set of a field that is there. -/
theorem set_there (h : HR w hb nb mb ov rv B H) (hi : HI H nu ol) {o : Ob} (ho : o ∈ nu ++ ol) {i : Nat} (hil : i < o.fs.length) (v : Vl) (hv : v.k = 4 → ∃ x ∈ nu ++ ol, v.n = (x.addr : Int)) (hsz : ∀ x ∈ nu ++ ol, x.addr + x.len ≤ big) (hrl : H.rem.length ≤ big) :
    Calls Tryd.prog 12 #[.pointer (some ⟨hb, 0, none⟩), .int .i64 (o.addr : Int), .int .i64 (i : Int), .agg #[.int .i64 v.k, .int .i64 v.n, .string v.s]] w fun e w' => e = .returned .nilIface ∧
      ∃ rv' H', HR w' hb nb mb ov rv' B H' ∧ HI H' (setOb nu o.addr i v) (setOb ol o.addr i v) ∧ SetLike H H' ∧ Turned (Owns hb nb mb ov rv) w w' ∧ (∀ k, rv'.ownBlock = some k → rv.ownBlock = some k ∨ w.heap.size ≤ k) := by
  have hbig := big_lt
  have hoa := hsz o ho
  have hol : o.len = 1 + o.fs.length := rfl
  rcases List.mem_append.mp ho with hn | hn
  · have hin := laid_in hi.na hn
    have e : setOb ol o.addr i v = ol := setOb_out hi.oa (by have := hi.fit; omega)
    refine (set_ob h hi hn hil v hv hsz).mono ?_
    rintro e' w' ⟨rfl, h1, h2, h3⟩
    refine ⟨rfl, rv, _, h1, ?_, ⟨rfl, rfl, rfl, rfl, rfl, rfl, rfl, Nat.le_succ _⟩, h3.mono (fun k hk => .inr (.inl hk)), fun k hk => .inl hk⟩
    rw [e]
    exact h2
  · have hin := laid_in hi.oa hn
    have e : setOb nu o.addr i v = nu := setOb_not (fun x hx hh => by
      have h1 := laid_in hi.na hx
      have := hi.fit
      have := len_pos x
      omega)
    obtain ⟨c, hc⟩ : ∃ c, o.fs[i]? = some c := ⟨_, List.getElem?_eq_getElem hil⟩
    have hcell : (o.cells 0)[1 + i]? = some c.cell := by
      rw [show 1 + i = i + 1 by omega]
      show (o.fs.map Vl.cell)[i]? = _
      rw [List.getElem?_map, hc]
      rfl
    have hraw := raw_obj h hi ho hcell
    have hraw' : H.raw ((o.addr : Int) + 1 + (i : Int)) = some c.cell := by
      rw [show (o.addr : Int) + 1 + (i : Int) = (o.addr : Int) + ((1 + i : Nat) : Int) by omega]
      exact hraw
    have em : ((o.addr : Int) + 1 + (i : Int) - (H.room : Int)).toNat = o.addr - H.room + 1 + i := by omega
    have hgoal := hi_setO hi hn hil v hv
    have hlike : SetLike H (H.setO (o.addr - H.room + 1 + i) v.k v.n v.s) := ⟨rfl, rfl, rfl, rfl, rfl, rfl, List.length_modify .., by
      show (if v.k = 4 ∧ v.n < (H.room : Int) then _ else _ : List Int).length ≤ _
      split <;> simp⟩
    have fin : ∀ (e' : Ending) (w' : World), (e' = .returned .nilIface ∧ ∃ rv', HR w' hb nb mb ov rv' B (H.setO ((o.addr : Int) + 1 + (i : Int) - (H.room : Int)).toNat v.k v.n v.s) ∧ Turned (fun k => ov.ownBlock = some k ∨ k = hb ∨ rv.ownBlock = some k) w w' ∧ (∀ k, rv'.ownBlock = some k → rv.ownBlock = some k ∨ w.heap.size ≤ k)) →
        e' = .returned .nilIface ∧ ∃ rv' H', HR w' hb nb mb ov rv' B H' ∧ HI H' (setOb nu o.addr i v) (setOb ol o.addr i v) ∧ SetLike H H' ∧ Turned (Owns hb nb mb ov rv) w w' ∧ (∀ k, rv'.ownBlock = some k → rv.ownBlock = some k ∨ w.heap.size ≤ k) := by
      rintro e' w' ⟨rfl, rv', h1, h2, h3⟩
      rw [em] at h1
      refine ⟨rfl, rv', _, h1, ?_, hlike, h2.mono (fun k hk => ?_), h3⟩
      · rw [e]
        exact hgoal
      · rcases hk with hk | hk | hk
        · exact .inr (.inr (.inr (.inl hk)))
        · exact .inl hk
        · exact .inr (.inr (.inr (.inr hk)))
    have hsize : (o.head 0).size = (o.fs.length : Int) := rfl
    by_cases hk : v.k = 4
    · obtain ⟨x, hx, en⟩ := hv hk
      have hxa := hsz x hx
      have hhead : H.head v.n = some (x.head 0) := by rw [en]; exact head_obj h hi hx
      by_cases hvo : v.n < (H.room : Int)
      · have h1 := set_old_new h (o.addr : Int) (i : Int) (by omega) (by omega) v.n v.s (o.head 0) c.cell (head_obj h hi ho) (by omega) (by rw [hsize]; omega) hraw' (x.head 0) (by omega) hhead hvo hrl
        rw [← hk] at h1
        exact h1.mono fin
      · have h1 := set_old_old h (o.addr : Int) (i : Int) (by omega) (by omega) v.n v.s (o.head 0) c.cell (head_obj h hi ho) (by omega) (by rw [hsize]; omega) hraw' (x.head 0) (by omega) hhead (by omega)
        rw [← hk] at h1
        exact h1.mono fin
    · exact (set_old_val h (o.addr : Int) (i : Int) (by omega) (by omega) v.k v.n v.s (o.head 0) c.cell (head_obj h hi ho) (by omega) (by rw [hsize]; omega) hraw' hk).mono fin
end Go.Proofs.YthbkklnahhdgcaaDoor.PlT

namespace Go.Proofs.YthbkklnahhdgcaaDoor.ChX
open Go Go.Proofs Go.RowKit Go.Maps Go.Proofs.YthbkklnahhdgcaaDoor.Lib HeapR HeapC HeapD ChA ChT ChCa ChCc ChE ChH ChI ChK ChL ChN ChQ ChR ChU ChV ChW

theorem row_pop {w : World} {base e g n c : Nat} {xs : List Value} {x : Value} (h : w.ownsRow base e 1 (.slice (some ⟨g, 0, none⟩) (n + 1) c) (n + 1) (xs ++ [x])) : w.ownsRow base e 1 (.slice (some ⟨g, 0, none⟩) n c) n xs := by
  have hl := h.1
  rw [List.length_append, List.length_singleton] at hl
  refine ⟨by omega, ?_⟩
  rcases h.2 with ⟨h1, _⟩ | ⟨g', cap, cur, h1, h2, h3, h4, h5, h6, h7⟩
  · cases h1
  · cases h1
    refine Or.inr ⟨g, c, cur, rfl, h2, h3, by omega, h5, h6, ?_⟩
    have e1 : n * 1 = xs.length := by omega
    rw [e1]
    have h8 := congrArg (List.take xs.length) h7
    rw [List.take_take, List.take_left, Nat.min_eq_left (by omega)] at h8
    exact h8
theorem ls_pop {w : World} {vs vt sb B : Nat} {S T : List Int} {a : Int} (h : LS w vs vt sb B S (T ++ [a])) {o : Option Addr} {c : Nat} (hv : w.cell? ⟨vt, 0, none⟩ = some (.slice o (T.length + 1) c)) :
    LS (w.setCell ⟨vt, 0, none⟩ (.slice o T.length c)) vs vt sb B S T ∧ Below B w (w.setCell ⟨vt, 0, none⟩ (.slice o T.length c)) ∧ ∃ g, o = some ⟨g, 0, none⟩ ∧ w.cell? ⟨g, T.length, none⟩ = some (.int .i64 a) ∧ T.length + 1 ≤ c := by
  obtain ⟨o', c', t1, t2, t3, t4, t5⟩ := h.tv
  rw [List.length_append, List.length_singleton] at t1 t2 t3 t4 t5
  have e : Value.slice o' (T.length + 1) c' = .slice o (T.length + 1) c := by
    have h1 : w.cell? ⟨vt, 0, none⟩ = some (.slice o' (T.length + 1) c') := cell_of_block t1 rfl
    rw [hv] at h1
    exact (Option.some.inj h1).symm
  cases e
  obtain ⟨g, cg, hg⟩ := row_slice t2 (by omega)
  cases hg
  rw [List.map_append] at t2
  obtain ⟨n1, n2, n3⟩ := h.ne
  obtain ⟨D, m1, m2⟩ := h.mp
  have t6 := row_pop t2
  refine ⟨{ h with
    sv := (blk_ne n1).trans h.sv
    tv := ⟨some ⟨g, 0, none⟩, c, blk_set t1 _, ownsRow_same t6 fun k hk => blk_ne (fun e => t4 (hk.trans (congrArg some e))), t3, t4, t5⟩
    mp := ⟨D, HeapF.ownsMap_same m1 (blk_ne (fun e => n3 e.symm)), m2⟩ }, (Below.refl _ _).setCell h.lo.2.1 _, g, rfl, ?_, ?_⟩
  · rw [t2.cellAt T.length (by omega), List.getElem?_append_right (by simp)]
    simp
  · rcases t2.2 with ⟨q1, _⟩ | ⟨g', cap, cur, q1, _, _, q4, _⟩
    · cases q1
    · cases q1
      exact q4

/-- What holds at each round of live's work. -/
def RelLO (w0 : World) (vs vt sb : Nat) (O : List Ob) (src : Nat → Prop) (S0 Pd : List Ob) (wr : World) : Prop :=
  ∃ S T, LiveI w0 vs vt sb O src S T wr ∧ S.Perm (Pd ++ T) ∧ (∀ o ∈ Pd, ∀ v ∈ o.fs, v.k = 4 → ∃ x ∈ S, v.n = (x.addr : Int)) ∧ ∃ K, S = S0 ++ K
/-- What it leaves. -/
def RelLE (w0 : World) (O : List Ob) (src : Nat → Prop) (S0 S : List Ob) (wr : World) : Prop :=
  Below w0.heap.size w0 wr ∧ S.Nodup ∧ (∀ o ∈ S, Reached O src o) ∧ (∀ o ∈ S, ∀ v ∈ o.fs, v.k = 4 → ∃ x ∈ S, v.n = (x.addr : Int)) ∧ ∃ K, S.Perm (S0 ++ K)
def InvLO (hb : Nat) (w0 : World) (vs vt sb : Nat) (O : List Ob) (src : Nat → Prop) (S0 : List Ob) (u1 u2 u3 u4 u5 u8 u9 Jg Jh Ji Jj Jk Jl Jm Jn Jo Jp Jq Jr Js Jt Xj : Value) (a : Act) (wr : World) : Prop :=
  ∃ (Pd : List Ob) (s11 s12 s13 s14 s15 s30 s31 s32 s33 s34 s35 s36 s37 s38 s39 s40 s41 s42 s43 s44 s45 s46 s47 s48 s49 s50 s51 s52 s53 s54 s55 s56 s57 s58 s59 s60 s61 s62 s63 s64 s65 : Value), RelLO w0 vs vt sb O src S0 Pd wr ∧ a = ⟨#[(.pointer (some ⟨hb, 0, none⟩)), u1, u2, u3, u4, u5, (.pointer (some ⟨vt, 0, none⟩)), (.func (Fn.func 128) #[] #[.pointer (some ⟨vs, 0, none⟩), .pointer (some ⟨vt, 0, none⟩)]), u8, u9, (.int .i64 (total Pd : Int)), s11, s12, s13, s14, s15, Jg, Jh, Ji, Jj, Jk, Jl, Jm, Jn, Jo, Jp, Jq, Jr, Js, Jt, s30, s31, s32, s33, s34, s35, s36, s37, s38, s39, s40, s41, s42, s43, s44, s45, s46, s47, s48, s49, s50, s51, s52, s53, s54, s55, s56, s57, s58, s59, s60, s61, s62, s63, s64, s65, Xj], []⟩
def muLO (a : Act) (_ : World) : Nat := big - (intOf (a.tmps.getD 10 undef)).toNat

theorem wrapk_pop {m : Nat} (h : m + 1 ≤ big) : IntKind.i64.wrap ((m : Int) + 1 - 1) = (m : Int) := by
  unfold big at h
  rw [show (m : Int) + 1 - 1 = (m : Int) by omega]
  exact IntWalk.i64_in _ (by omega)
theorem wrap_pop {m : Nat} (h : m + 1 ≤ big) : wrap64 ((m : Int) + 1 - 1) = (m : Int) := by
  unfold big at h
  unfold wrap64
  omega
theorem live_work {Q : Exit → Act → World → Prop} {u1 u2 u3 u4 u5 u8 u9 Jb Jc Jd Je Jf Jg Jh Ji Jj Jk Jl Jm Jn Jo Jp Jq Jr Js Jt Ju Jv Jw Jx Jy Jz Qa Qb Qc Qd Qe Qf Qg Qh Qi Qj Qk Ql Qm Qn Qo Qp Qq Qr Qs Qt Qu Qv Qw Qx Qy Qz Xe Xg Xh Xi Xj : Value} (w0 : World) (hb nb mb : Nat) (ov rv : Value) (B : Nat) (H : HS) (nu ol : List Ob) (vs vt sb : Nat) (src : Nat → Prop) (S0 : List Ob) (w : World)
    (h : HR w0 hb nb mb ov rv B H) (hi : HI H nu ol) (h0 : LiveI w0 vs vt sb (nu ++ ol) src S0 S0 w) (hO : total (nu ++ ol) < big) (ha : ∀ o ∈ nu ++ ol, o.addr + o.len ≤ big)
    (hQ : ∀ (S : List Ob) (s11 s12 s13 s14 s15 s30 s31 s32 s33 s34 s35 s36 s37 s38 s39 s40 s41 s42 s43 s44 s45 s46 s47 s48 s49 s50 s51 s52 s53 s54 s55 s56 s57 s58 s59 s60 s61 s62 s63 s64 s65 : Value) (w' : World), RelLE w0 (nu ++ ol) src S0 S w' → Q (.exit 2) ⟨#[(.pointer (some ⟨hb, 0, none⟩)), u1, u2, u3, u4, u5, (.pointer (some ⟨vt, 0, none⟩)), (.func (Fn.func 128) #[] #[.pointer (some ⟨vs, 0, none⟩), .pointer (some ⟨vt, 0, none⟩)]), u8, u9, (.int .i64 (total S : Int)), s11, s12, s13, s14, s15, Jg, Jh, Ji, Jj, Jk, Jl, Jm, Jn, Jo, Jp, Jq, Jr, Js, Jt, s30, s31, s32, s33, s34, s35, s36, s37, s38, s39, s40, s41, s42, s43, s44, s45, s46, s47, s48, s49, s50, s51, s52, s53, s54, s55, s56, s57, s58, s59, s60, s61, s62, s63, s64, s65, Xj], []⟩ w') :
    Code.wp Tryd.prog (Cut.piece Tryd.f113 (Cut.loop 10)) Q ⟨#[(.pointer (some ⟨hb, 0, none⟩)), u1, u2, u3, u4, u5, (.pointer (some ⟨vt, 0, none⟩)), (.func (Fn.func 128) #[] #[.pointer (some ⟨vs, 0, none⟩), .pointer (some ⟨vt, 0, none⟩)]), u8, u9, (.int .i64 (0 : Int)), Jb, Jc, Jd, Je, Jf, Jg, Jh, Ji, Jj, Jk, Jl, Jm, Jn, Jo, Jp, Jq, Jr, Js, Jt, Ju, Jv, Jw, Jx, Jy, Jz, Qa, Qb, Qc, Qd, Qe, Qf, Qg, Qh, Qi, Qj, Qk, Ql, Qm, Qn, Qo, Qp, Qq, Qr, Qs, Qt, Qu, Qv, Qw, Qx, Qy, Qz, Xe, Xg, Xh, Xi, Xj], []⟩ w := by
  conv => arg 2; whnf
  refine wp_loop (InvLO hb w0 vs vt sb (nu ++ ol) src S0 u1 u2 u3 u4 u5 u8 u9 Jg Jh Ji Jj Jk Jl Jm Jn Jo Jp Jq Jr Js Jt Xj) muLO ?_ (fun a' wr hI => ?_)
  · exact ⟨[], Jb, Jc, Jd, Je, Jf, Ju, Jv, Jw, Jx, Jy, Jz, Qa, Qb, Qc, Qd, Qe, Qf, Qg, Qh, Qi, Qj, Qk, Ql, Qm, Qn, Qo, Qp, Qq, Qr, Qs, Qt, Qu, Qv, Qw, Qx, Qy, Qz, Xe, Xg, Xh, Xi, ⟨S0, S0, h0, List.Perm.refl _, fun o ho => by (cases ho), [], by simp⟩, rfl⟩
  obtain ⟨Pd, s11, s12, s13, s14, s15, s30, s31, s32, s33, s34, s35, s36, s37, s38, s39, s40, s41, s42, s43, s44, s45, s46, s47, s48, s49, s50, s51, s52, s53, s54, s55, s56, s57, s58, s59, s60, s61, s62, s63, s64, s65, hI⟩ := hI
  obtain ⟨⟨S, T, hL, hP, hd, K0, hK0⟩, rfl⟩ := hI
  have hsm := hL.small hO
  rcases List.eq_nil_or_concat T with rfl | ⟨T', x, rfl⟩
  · obtain ⟨o, c, t1, _⟩ := hL.ls.tv
    have tc : wr.cell? ⟨vt, 0, none⟩ = some (.slice o 0 c) := cell_of_block t1 rfl
    rw [List.append_nil] at hP
    have hfin : RelLE w0 (nu ++ ol) src S0 Pd wr := ⟨hL.below, hP.nodup_iff.mp hL.nd, fun o ho => hL.led o (hP.mem_iff.mpr ho), fun o ho v hv hk => by
      obtain ⟨y, hy, e⟩ := hd o ho v hv hk
      exact ⟨y, hP.mem_iff.mp hy, e⟩, K0, hP.symm.trans (by rw [hK0])⟩
    clear hL hP hd hK0 hsm t1
    go_wp2
    exact hfin
  · rw [List.concat_eq_append] at *
    obtain ⟨o, c, t1, _⟩ := hL.ls.tv
    have hm : (addrs (T' ++ [x])).length = T'.length + 1 := by rw [addrs_len]; simp
    rw [hm] at t1
    have tc : wr.cell? ⟨vt, 0, none⟩ = some (.slice o (T'.length + 1) c) := cell_of_block t1 rfl
    have tf : wr.frozen? ⟨vt, 0, none⟩ = false := frozen_of_block t1
    have hls := hL.ls
    rw [addrs_snoc] at hls
    obtain ⟨p1, p2, g, rfl, p3, p4⟩ := ls_pop hls (o := o) (c := c) (by rw [addrs_len]; exact tc)
    rw [addrs_len] at p1 p2 p3 p4
    have hxS : x ∈ S := hP.mem_iff.mpr (List.mem_append.mpr (Or.inr (List.mem_append.mpr (Or.inr (by simp)))))
    have hxr := hL.led x hxS
    have hxO := reached_mem hxr
    have hL1 : LiveI w0 vs vt sb (nu ++ ol) src S T' (wr.setCell ⟨vt, 0, none⟩ (.slice (some ⟨g, 0, none⟩) T'.length c)) := ⟨p1, hL.below.trans p2, hL.nd, hL.led, by have := hL.le; rw [List.length_append] at this; omega⟩
    have hbm : T'.length + 1 ≤ big := by
      have := hL.le
      rw [List.length_append, List.length_singleton] at this
      omega
    have hr1 := h.below hL1.below
    have hxa := ha x hxO
    have hbig := big_lt
    have hsize := Size_yes hr1 (x.addr : Int) (by omega) (x.head 0) (head_obj hr1 hi hxO)
    have hsize' : Calls Tryd.prog 75 #[.pointer (some ⟨hb, 0, none⟩), .int .i64 (x.addr : Int)] (wr.setCell ⟨vt, 0, none⟩ (.slice (some ⟨g, 0, none⟩) T'.length c)) fun e w' => e = .returned (.int .i64 (x.fs.length : Int)) ∧ Below (wr.setCell ⟨vt, 0, none⟩ (.slice (some ⟨g, 0, none⟩) T'.length c)).heap.size (wr.setCell ⟨vt, 0, none⟩ (.slice (some ⟨g, 0, none⟩) T'.length c)) w' := hsize
    have htx : total Pd + x.len ≤ total (nu ++ ol) := by
      have h1 : (Pd ++ (T' ++ [x])).Nodup := hP.nodup_iff.mp hL.nd
      have h2 := total_le h1 (O := nu ++ ol) (fun o ho => reached_mem (hL.led o (hP.mem_iff.mpr ho)))
      rw [total_append, total_append] at h2
      simp only [total, List.map_cons, List.map_nil, List.sum_cons, List.sum_nil] at h2 ⊢
      omega
    have hxl : x.len = 1 + x.fs.length := rfl
    have b1 : 1 + x.fs.length ≤ big := by omega
    have b2 : total Pd + (1 + x.fs.length) ≤ big := by omega
    clear hsize hsm t1 p1 p2 hls hm hr1 hbig
    generalize hmm : T'.length = m at *
    have g4 : (m : Int) ≤ (c : Int) := by omega
    have g5 : ¬ c = 0 := by omega
    have A1 := Lib.hid hmm
    have A2 := Lib.hid hP
    have A3 := Lib.hid hd
    have A4 := Lib.hid hK0
    clear hmm hP hd hK0
    have c1 : IntKind.i64.wrap ((m : Int) + 1 - 1) = (m : Int) := wrapk_pop hbm
    have c2 : wrap64 ((m : Int) + 1 - 1) = (m : Int) := wrap_pop hbm
    have c3 : IntKind.i64.wrap (m : Int) = (m : Int) := wrapk_one (Nat.le_of_succ_le hbm)
    have c4 : wrap64 (m : Int) = (m : Int) := wrap_one (Nat.le_of_succ_le hbm)
    have c5 : IntKind.i64.wrap (1 + (x.fs.length : Int)) = 1 + (x.fs.length : Int) := wrapk_two 1 x.fs.length b1
    have c6 : wrap64 (1 + (x.fs.length : Int)) = 1 + (x.fs.length : Int) := wrap_two 1 x.fs.length b1
    have c7 : IntKind.i64.wrap ((total Pd : Int) + (1 + (x.fs.length : Int))) = (total Pd : Int) + (1 + (x.fs.length : Int)) := wrapk_in b2
    have c8 : wrap64 ((total Pd : Int) + (1 + (x.fs.length : Int))) = (total Pd : Int) + (1 + (x.fs.length : Int)) := wrap_in b2
    have g0 : decide (0 < (m : Int) + 1) = true := by
      clear c1 c2 c3 c4 c5 c6 c7 c8
      simp only [decide_eq_true_eq]
      omega
    have g1 : (m : Int) < (m : Int) + 1 := Int.lt_succ _
    have g2 : (0 : Int) ≤ (m : Int) := Int.natCast_nonneg _
    have g3 : (m : Int) ≤ (m : Int) + 1 := Int.le_of_lt g1
    go_wp2_with (go_at_call 75; refine hsize'.mono ?_; rintro e w2 ⟨rfl, hb2⟩)
    clear c1 c2 c3 c4 c5 c6 c7 c8 g0 g1 g2 g3
    refine live_fields w0 hb nb mb ov rv B H nu ol vs vt sb src S T' x _ h hi hxO hxr (hL1.same hb2) hO ha ?_
    intro t13 t14 t15 t53 t54 t55 t56 t57 t58 t59 t60 t61 t62 t63 t64 t65 w3 hF
    obtain ⟨_, K, hL3, hs3⟩ := hF
    rw [List.take_length] at hs3
    have hfin : RelLO w0 vs vt sb (nu ++ ol) src S0 (Pd ++ [x]) w3 := by
      refine ⟨S ++ K, T' ++ K, hL3, ?_, fun o ho v hv hk => ?_, K0 ++ K, by rw [A4.out, List.append_assoc]⟩
      · have h1 : (S ++ K).Perm ((Pd ++ (T' ++ [x])) ++ K) := A2.out.append_right K
        refine h1.trans ?_
        rw [List.append_assoc, List.append_assoc, List.append_assoc]
        refine List.Perm.append_left Pd ?_
        rw [← List.append_assoc, ← List.append_assoc]
        exact (List.perm_append_comm (l₁ := T') (l₂ := [x])).append_right K
      · rcases List.mem_append.mp ho with ho | ho
        · obtain ⟨y, hy, e⟩ := A3.out o ho v hv hk
          exact ⟨y, List.mem_append.mpr (Or.inl hy), e⟩
        · have : o = x := by simpa using ho
          subst this
          exact hs3 v hv hk
    have htot : total (Pd ++ [x]) = total Pd + (1 + x.fs.length) := by
      rw [total_append]
      simp [total, Ob.len]
    have heq : (total Pd : Int) + (1 + (x.fs.length : Int)) = ((total (Pd ++ [x]) : Nat) : Int) := by
      rw [htot]
      omega
    have A5 := Lib.hid hfin
    have A6 := Lib.hid heq
    have A7 := Lib.hid htot
    clear hL3 hs3 hfin heq htot hL hL1 tc tf p3
    go_wp2
    rw [A6.out]
    refine ⟨⟨Pd ++ [x], _, _, _, _, _, _, _, _, _, _, _, _, _, _, _, _, _, _, _, _, _, _, _, _, _, _, _, _, _, _, _, _, _, _, _, _, _, _, _, _, _, A5.out, rfl⟩, ?_⟩
    have htot := A7.out
    generalize total (Pd ++ [x]) = q at htot ⊢
    simp [muLO, intOf]
    omega

/-- What roots lead to. -/
def rootSrc (rs : List (Nat × Nat)) (f : Nat × Nat → Vl) (a : Nat) : Prop := ∃ r ∈ rs, (f r).k = 4 ∧ (f r).n = (a : Int)
theorem live_any {w : World} {hb nb mb : Nat} {ov rv : Value} {B : Nat} {H : HS} {nu ol : List Ob} (h : HR w hb nb mb ov rv B H) (hi : HI H nu ol) {v : Value} {rs : List (Nat × Nat)} {f : Nat × Nat → Vl} (hr : RootsAt w (Owns hb nb mb ov rv) v rs f) (hroot : ∀ a ∈ rs, (f a).k = 4 → ∃ x ∈ nu ++ ol, (f a).n = (x.addr : Int)) :
    Calls Tryd.prog 113 #[.pointer (some ⟨hb, 0, none⟩), v] w fun e w' => ∃ S, e = .returned (.int .i64 (total S : Int)) ∧ Below w.heap.size w w' ∧ S.Nodup ∧ (∀ o, o ∈ S ↔ Reached (nu ++ ol) (rootSrc rs f) o) := by
  have hsz : H.room + H.old.length + total nu + 1 ≤ big := by
    have h1 := h.om
    have h2 := h.mm
    have h3 := h.rr
    have h4 := hi.fit
    unfold big
    omega
  have hO : total (nu ++ ol) < big := by
    rw [total_append, ← hi.olen]
    omega
  have ha : ∀ o ∈ nu ++ ol, o.addr + o.len ≤ big := fun o ho => by
    rcases List.mem_append.mp ho with ho | ho
    · have := min_addr hi ho
      omega
    · have h1 := laid_in hi.oa ho
      rw [← hi.olen] at h1
      omega
  obtain ⟨oa, rb, ro, c, rfl, hre⟩ := hr.list
  have hre' : ∀ (i : Nat) (a : Nat × Nat), rs[i]? = some a → oa = some ⟨rb, ro, none⟩ ∧ w.cell? ⟨rb, ro + i, none⟩ = some (.pointer (some ⟨a.1, a.2, none⟩)) := fun i a hia => ⟨(hre i a hia).1, (hre i a hia).2.1⟩
  have hc : ∀ a ∈ rs, w.cell? ⟨a.1, a.2, none⟩ = some (.int .i64 (f a).k) ∧ w.cell? ⟨a.1, a.2 + 1, none⟩ = some (.int .i64 (f a).n) ∧ w.cell? ⟨a.1, a.2 + 2, none⟩ = some (.string (f a).s) := fun a ha => ⟨(hr.cell a ha).1, (hr.cell a ha).2.1, (hr.cell a ha).2.2.1⟩
  have hv : ∀ a ∈ rs, (f a).k = 4 → ∃ o, Reached (nu ++ ol) (rootSrc rs f) o ∧ (f a).n = (o.addr : Int) := fun a ha' hk => by
    obtain ⟨x, hx, e⟩ := hroot a ha' hk
    exact ⟨x, .src hx ⟨a, ha', hk, e⟩, e⟩
  have hmm := @run_makeMap Tryd.prog
  have hL0 : LiveI w (w.heap.size + 1) (w.heap.size + 2) w.heap.size (nu ++ ol) (rootSrc rs f) [] [] (((w.alloc (.map #[] 0)).alloc (.cells #[.map (some w.heap.size)] 210 (0, 0))).alloc (.cells #[.slice none 0 0] 52 (0, 0))) := by
    refine ⟨⟨?_, ⟨none, 0, ?_, World.ownsRow_nil _ _ _ _, by simp [Value.ownBlock], by simp [Value.ownBlock], by simp [Value.ownBlock]⟩, ⟨.map [], ?_, ⟨isMap_empty, fun _ => rfl⟩⟩, by omega, by omega⟩, ?_, List.nodup_nil, fun o ho => by (cases ho), Nat.le_refl _⟩
    · rw [Below.heap_alloc _ _ _ (by simp)]
      exact heap_alloc_at (by simp) _
    · exact heap_alloc_at (by simp) _
    · exact (((World.ownsMap_made w Tryd.prog 3 (plainElem Tryd.prog 4)).alloc _).alloc _)
    · exact (((Below.refl _ w).alloc (Nat.le_refl _) _).alloc (by simp) _).alloc (by simp; omega) _
  have HL := Lib.hid hL0
  have HRE := Lib.hid hre'
  have HC := Lib.hid hc
  have HV := Lib.hid hv
  clear hL0 hre' hc hv hre
  go_enter Tryd.func113, Tryd.ntmps113
  go_wp2
  refine live_roots oa rb ro c w (w.heap.size + 1) (w.heap.size + 2) w.heap.size (nu ++ ol) (rootSrc rs f) rs f _ (by exact HL.out) hO hi.apart (fun o ho => by have := ha o ho; omega) hr.len HRE.out HC.out HV.out ?_
  intro s9 s21 s22 s23 s24 s25 s26 s27 s28 s29 w2 hR2
  obtain ⟨_, S1, hL1, hs1⟩ := hR2
  rw [List.take_length] at hs1
  have HS1 := Lib.hid hs1
  clear hs1
  go_wp2
  refine live_work w hb nb mb ov rv B H nu ol (w.heap.size + 1) (w.heap.size + 2) w.heap.size (rootSrc rs f) S1 w2 h hi hL1 hO ha ?_
  intro S t11 t12 t13 t14 t15 t30 t31 t32 t33 t34 t35 t36 t37 t38 t39 t40 t41 t42 t43 t44 t45 t46 t47 t48 t49 t50 t51 t52 t53 t54 t55 t56 t57 t58 t59 t60 t61 t62 t63 t64 t65 w3 hE
  obtain ⟨hbl, hnd, hled, hcl, K, hK⟩ := hE
  have hfin : ∀ o, o ∈ S ↔ Reached (nu ++ ol) (rootSrc rs f) o := fun o => by
    refine ⟨fun ho => hled o ho, fun ho => ?_⟩
    induction ho with
    | src ho hsrc =>
      obtain ⟨r, hr', hk, hn⟩ := hsrc
      obtain ⟨x, hx, e⟩ := HS1.out r hr' hk
      have hxS : x ∈ S := hK.mem_iff.mpr (List.mem_append.mpr (Or.inl hx))
      have := hi.apart x (reached_mem (hled x hxS)) _ ho (by omega)
      rw [← this]
      exact hxS
    | step _ hv' hk hn ho ih =>
      obtain ⟨x, hx, e⟩ := hcl _ ih _ hv' hk
      have := hi.apart x (reached_mem (hled x hx)) _ ho (by omega)
      rw [← this]
      exact hx
  have A1 := Lib.hid hfin
  clear hfin hled hcl hK
  go_wp2
  go_ret
  exact ⟨S, rfl, hbl, hnd, A1.out⟩

end Go.Proofs.YthbkklnahhdgcaaDoor.ChX

namespace Go.Proofs.YthbkklnahhdgcaaDoor.ChYa
open Go Go.Proofs Go.RowKit Go.Maps Go.Proofs.YthbkklnahhdgcaaDoor.Lib HeapR ChA ChCa ChD ChF ChJ

def ptr (a : Nat × Nat) : Value := .pointer (some ⟨a.1, a.2, none⟩)
/-- A map whose keys are these pointers, each with true. -/
def PSet (w : World) (b : Nat) (l : List (Nat × Nat)) : Prop := ∃ es clock, w.heap[b]? = some (.map es clock) ∧ es.toList.map (fun e => e.key) = l.map ptr ∧ ∀ e ∈ es.toList, e.val = .bool true
theorem pset_made (w : World) : PSet (w.alloc (.map #[] 0)) w.heap.size [] := ⟨#[], 0, heap_alloc_last w _, rfl, fun e he => by cases he⟩
theorem PSet.same {w w' : World} {b : Nat} {l : List (Nat × Nat)} (h : PSet w b l) (e : w'.heap[b]? = w.heap[b]?) : PSet w' b l := by
  obtain ⟨es, clock, h1, h2⟩ := h
  exact ⟨es, clock, e.trans h1, h2⟩
theorem PSet.lt {w : World} {b : Nat} {l : List (Nat × Nat)} (h : PSet w b l) : b < w.heap.size := by
  obtain ⟨es, clock, h1, _⟩ := h
  exact lt_of_block h1

theorem infoValue : (Tryd.prog.info? 28).map (fun i => (i.zero, i.size, i.bytes)) = some (some (.agg #[.int .i64 0, .int .i64 0, .string ByteArray.empty]), 3, 32) := by kernel_rfl

theorem equal_ptr {a b : Nat × Nat} {w : World} (ha : ∃ c t, w.heap[a.1]? = some (.cells c t (0, 0))) (hb : ∃ c t, w.heap[b.1]? = some (.cells c t (0, 0))) : (Op.equal 208 (ptr a) (ptr b)).run Tryd.prog w = .ok (decide (a = b)) w := by
  obtain ⟨ca, ta, ha⟩ := ha
  obtain ⟨cb, tb, hb⟩ := hb
  obtain ⟨i0, hi, hz0, hz1, hz2⟩ := info_parts infoValue
  by_cases h : a = b
  · subst h
    have h1 := run_sameAddr_same (P := Tryd.prog) w ⟨a.1, a.2, none⟩
    have key : ∀ d : Nat, (Op.equalIn (d + 1) 208 (ptr a) (ptr a)).run Tryd.prog w = .ok true w := fun d => by
      simp [Op.equalIn, run_underlying Tryd.underlying208, ptr, sizeOf, typeInfo, hi, hz1, h1]
    rw [decide_eq_true rfl]
    exact key 9999
  · have hne : (⟨a.1, a.2, none⟩ : Addr) ≠ ⟨b.1, b.2, none⟩ := fun e => by
      simp only [Addr.mk.injEq] at e
      exact h (Prod.ext e.1 e.2.1)
    have h1 := run_sameAddr_other (P := Tryd.prog) w hne ha hb
    have key : ∀ d : Nat, (Op.equalIn (d + 1) 208 (ptr a) (ptr b)).run Tryd.prog w = .ok false w := fun d => by
      simp [Op.equalIn, run_underlying Tryd.underlying208, ptr, sizeOf, typeInfo, hi, hz1, h1]
    rw [decide_eq_false h]
    exact key 9999

theorem find_ptr {w : World} {a : Nat × Nat} (ha : ∃ c t, w.heap[a.1]? = some (.cells c t (0, 0))) : ∀ (es : List MapEntry) (l : List (Nat × Nat)) (i : Nat), es.map (fun e => e.key) = l.map ptr → (∀ b ∈ l, ∃ c t, w.heap[b.1]? = some (.cells c t (0, 0))) → (∀ e ∈ es, e.val = .bool true) →
    (a ∈ l ∧ ∃ j, (Instr.findAsking 208 (ptr a) es i).run Tryd.prog w = .ok (some (j, .bool true)) w) ∨ (a ∉ l ∧ (Instr.findAsking 208 (ptr a) es i).run Tryd.prog w = .ok none w) := by
  intro es
  induction es with
  | nil =>
    intro l i hl _ _
    cases l with
    | nil => exact Or.inr ⟨List.not_mem_nil, by simp [Instr.findAsking]⟩
    | cons b l => cases hl
  | cons e es ih =>
    intro l i hl hb hv
    cases l with
    | nil => cases hl
    | cons b l =>
      rw [List.map_cons, List.map_cons] at hl
      injection hl with h1 h2
      have he := equal_ptr ha (hb b (List.mem_cons_self ..))
      rw [← h1] at he
      by_cases hab : a = b
      · refine Or.inl ⟨by rw [hab]; exact List.mem_cons_self .., i, ?_⟩
        rw [decide_eq_true hab] at he
        simp [Instr.findAsking, he, hv e (List.mem_cons_self ..)]
      · rw [decide_eq_false hab] at he
        rcases ih l (i + 1) h2 (fun x hx => hb x (List.mem_cons_of_mem _ hx)) (fun x hx => hv x (List.mem_cons_of_mem _ hx)) with ⟨g1, j, g2⟩ | ⟨g1, g2⟩
        · exact Or.inl ⟨List.mem_cons_of_mem _ g1, j, by simp [Instr.findAsking, he, g2]⟩
        · refine Or.inr ⟨fun h' => ?_, by simp [Instr.findAsking, he, g2]⟩
          rcases List.mem_cons.mp h' with h' | h'
          · exact hab h'
          · exact g1 h'
theorem find_key {w : World} {a : Nat × Nat} {es : List MapEntry} {l : List (Nat × Nat)} (h : es.map (fun e => e.key) = l.map ptr) : (Instr.findKey 208 (ptr a) es).run Tryd.prog w = (Instr.findAsking 208 (ptr a) es 0).run Tryd.prog w := by
  unfold Instr.findKey
  cases es with
  | nil => simp [run_underlying Tryd.underlying208, Instr.findNow, Instr.findAsking]
  | cons e es =>
    have h1 : Instr.sameNow (.pointer 28) (ptr a) e.key = none := rfl
    simp [run_underlying Tryd.underlying208, Instr.findNow, h1]
theorem check_ptr {w : World} {a : Nat × Nat} (em : Bool) : (Instr.checkKey em 10000 208 (ptr a)).run Tryd.prog w = .ok () w := by
  have key : ∀ d : Nat, (Instr.checkKey em (d + 1) 208 (ptr a)).run Tryd.prog w = .ok () w := fun d => by
    simp [Instr.checkKey, run_underlying Tryd.underlying208, ptr]
  exact key 9999

theorem pset_look {w : World} {b : Nat} {l : List (Nat × Nat)} {a : Nat × Nat} (h : PSet w b l) (ha : ∃ c t, w.heap[a.1]? = some (.cells c t (0, 0))) (hl : ∀ b ∈ l, ∃ c t, w.heap[b.1]? = some (.cells c t (0, 0))) :
    (Instr.lookup 242 (.map (some b)) (.pointer (some ⟨a.1, a.2, none⟩)) false).run Tryd.prog w = .ok (.bool (decide (a ∈ l))) w := by
  obtain ⟨es, clock, h1, h2, h3⟩ := h
  have hz : (zeroValue 4).run Tryd.prog w = .ok (.bool false) w := by kernel_rfl
  have hc := fun em => check_ptr (w := w) (a := a) em
  have hf := find_key (w := w) (a := a) h2
  unfold ptr at hc hf
  rcases find_ptr ha es.toList l 0 h2 hl h3 with ⟨g1, j, g2⟩ | ⟨g1, g2⟩
  · unfold ptr at g2
    rw [g2] at hf
    simp [Instr.lookup, run_underlying Tryd.underlying242, MapKept.run_getObj_map h1, hc, hf, g1]
  · unfold ptr at g2
    rw [g2] at hf
    simp [Instr.lookup, run_underlying Tryd.underlying242, MapKept.run_getObj_map h1, hc, hf, g1, hz]
theorem pset_put {w : World} {b : Nat} {l : List (Nat × Nat)} {a : Nat × Nat} (h : PSet w b l) (ha : ∃ c t, w.heap[a.1]? = some (.cells c t (0, 0))) (hl : ∀ b ∈ l, ∃ c t, w.heap[b.1]? = some (.cells c t (0, 0))) (hn : a ∉ l) :
    ∃ w', (Instr.mapUpdate 242 (.map (some b)) (.pointer (some ⟨a.1, a.2, none⟩)) (.bool true)).run Tryd.prog w = .ok () w' ∧ PSet w' b (l ++ [a]) ∧ w.grownBy w' (some b) := by
  obtain ⟨es, clock, h1, h2, h3⟩ := h
  have hc := fun em => check_ptr (w := w) (a := a) em
  have hf := find_key (w := w) (a := a) h2
  unfold ptr at hc hf
  rcases find_ptr ha es.toList l 0 h2 hl h3 with ⟨g1, j, g2⟩ | ⟨g1, g2⟩
  · exact absurd g1 hn
  · unfold ptr at g2
    rw [g2] at hf
    refine ⟨ChangeMaps.setBlock w b (.map (es.push ⟨ptr a, .bool true, clock⟩) (clock + 1)), ?_, ⟨_, _, ChangeMaps.heap_setBlock_same h1 _, ?_, ?_⟩, ⟨rfl, rfl, rfl, by simp [ChangeMaps.setBlock], fun i _ hi => ChangeMaps.heap_setBlock_other h1 _ (fun e => hi (by rw [e]))⟩⟩
    · simp [Instr.mapUpdate, run_underlying Tryd.underlying242, MapKept.run_getObj_map h1, hc, hf, MapKept.run_setObj_map _ h1, ptr]
      rfl
    · simp [h2, ptr]
    · intro e he
      rw [Array.toList_push] at he
      rcases List.mem_append.mp he with he | he
      · exact h3 e he
      · have : e = ⟨ptr a, .bool true, clock⟩ := by simpa using he
        rw [this]
end Go.Proofs.YthbkklnahhdgcaaDoor.ChYa

namespace Go.Proofs.YthbkklnahhdgcaaDoor.ChYb
open Go Go.Proofs Go.RowKit Go.Maps Go.Proofs.YthbkklnahhdgcaaDoor.Lib HeapR ChA ChT ChCa ChCc ChD ChE ChF ChG ChH ChI ChJ ChV ChYa

/-- The blocks that the loop turns besides. -/
def extra (rs : List (Nat × Nat)) (sb j : Nat) : Prop := (∃ b ∈ rs, b.1 = j) ∨ j = sb
/-- What holds at each round over roots. -/
def RelRM (p : Par) (tv0 : Value) (w0 : World) (sb : Nat) (P : Nat → Bool) (rs : List (Nat × Nat)) (f : Nat × Nat → Vl) (i : Nat) (wr : World) : Prop :=
  ∃ tv K l, Half p tv wr [] P rs f i wr tv K ∧ PSet wr sb l ∧ (∀ b, b ∈ l ↔ b ∈ rs.take i) ∧ GrewR p (extra rs sb) tv0 w0 tv wr
theorem half_base {p : Par} {tv0 : Value} {w0 : World} {L0 : List Ob} {P : Nat → Bool} {rs : List (Nat × Nat)} {f : Nat × Nat → Vl} {i : Nat} {wr : World} {tv : Value} {K : List Ob} (h : Half p tv0 w0 L0 P rs f i wr tv K) : Half p tv wr L0 P rs f i wr tv K := ⟨h.le, h.cr, h.roots, h.has_, GrewR.refl _ _ _ _⟩
/-- Another block turns. -/
theorem half_other {p : Par} {L0 : List Ob} {P : Nat → Bool} {rs : List (Nat × Nat)} {f : Nat × Nat → Vl} {i : Nat} {w w' : World} {tv : Value} {K : List Ob} (h : Half p tv w L0 P rs f i w tv K) {sb : Nat} (hg : w.grownBy w' (some sb)) (hn : ¬ Own p tv sb) (hr : ∀ b ∈ rs, b.1 ≠ sb) : Half p tv w' L0 P rs f i w' tv K := by
  have hb : ∀ k, k < w.heap.size → k ≠ sb → w'.heap[k]? = w.heap[k]? := fun k hk hne => hg.block k hk (fun e => hne (Option.some.inj e))
  refine ⟨h.le, h.cr.same (fun k hk => hb k (own_lt_size h.cr hk) (fun e => hn (e ▸ hk))) hg.size, ⟨fun a ha => ?_, h.roots.out, fun a ha => ?_, fun a ha c t e => h.roots.kept a ha c t ((hb a.1 (World.block_lt_of_cell? w _ (h.roots.cell a ha).1) (hr a ha)).symm.trans e)⟩, h.has_, GrewR.refl _ _ _ _⟩
  · obtain ⟨q0, q1, q2, q3⟩ := h.roots.cell a ha
    have he := hb a.1 (World.block_lt_of_cell? w _ q0) (hr a ha)
    exact ⟨(World.cell?_of_block (a := ⟨a.1, a.2, none⟩) he).trans q0, (World.cell?_of_block (a := ⟨a.1, a.2 + 1, none⟩) he).trans q1, (World.cell?_of_block (a := ⟨a.1, a.2 + 2, none⟩) he).trans q2, (World.frozen?_of_block (a := ⟨a.1, a.2 + 1, none⟩) he).trans q3⟩
  · obtain ⟨c, t, e⟩ := h.roots.blk a ha
    exact ⟨c, t, (hb a.1 (lt_of_block e) (hr a ha)).trans e⟩

def InvRM (p : Par) (oa : Option Addr) (c : Nat) (tv0 : Value) (w0 : World) (sb : Nat) (P : Nat → Bool) (rs : List (Nat × Nat)) (f : Nat × Nat → Vl) (u0 u1 u2 u3 u4 u7 u9 Ja Jb Jc Jd Je Jf Jg Jh Ji Jj Jk Jl Jm Qd Qe Qf Qg Qh Qi Qj Qk Ql Qm Qn Qo Qp Qq Qr Qs Qt Qu Qv Qw Qx Qy Qz Xe Xg Xh Xi Xj Xk : Value) (a : Act) (wr : World) : Prop :=
  ∃ (i : Nat) (s8 s26 s27 s28 s29 s30 s31 s32 s33 s34 s35 s36 s37 s38 : Value), RelRM p tv0 w0 sb P rs f i wr ∧ a = ⟨#[u0,u1,u2,u3,u4,(.pointer (some ⟨p.kb,0,none⟩)),(.map (some sb)),u7,s8,u9,Ja,Jb,Jc,Jd,Je,Jf,Jg,Jh,Ji,Jj,Jk,Jl,Jm,(.slice oa rs.length c),(.int .i64 (rs.length : Int)),(.int .i64 (i : Int)),s26,s27,s28,s29,s30,s31,s32,s33,s34,s35,s36,s37,s38,Qd,Qe,Qf,Qg,Qh,Qi,Qj,Qk,Ql,Qm,Qn,Qo,Qp,Qq,Qr,Qs,Qt,Qu,Qv,Qw,Qx,Qy,Qz,Xe,Xg,Xh,Xi,Xj,Xk], []⟩
def muRM (n : Nat) (a : Act) (_ : World) : Nat := n - (intOf (a.tmps.getD 25 undef)).toNat

theorem major_roots {p : Par} (hp : p.OK) {Q : Exit → Act → World → Prop} (u0 u1 u2 u3 u4 u7 u8 u9 Ja Jb Jc Jd Je Jf Jg Jh Ji Jj Jk Jl Jm Jq Jr Js Jt Ju Jv Jw Jx Jy Jz Qa Qb Qc Qd Qe Qf Qg Qh Qi Qj Qk Ql Qm Qn Qo Qp Qq Qr Qs Qt Qu Qv Qw Qx Qy Qz Xe Xg Xh Xi Xj Xk : Value) (oa : Option Addr) (rb ro c : Nat) (tv0 : Value) (w0 : World) (sb : Nat) (P : Nat → Bool) (rs : List (Nat × Nat)) (f : Nat × Nat → Vl)
    (h0 : RelRM p tv0 w0 sb P rs f 0 w0) (hA : RootsApart rs) (hlen : rs.length ≤ big) (hre : ∀ (i : Nat) (a : Nat × Nat), rs[i]? = some a → oa = some ⟨rb, ro, none⟩ ∧ w0.cell? ⟨rb, ro + i, none⟩ = some (.pointer (some ⟨a.1, a.2, none⟩)) ∧ ¬ Tset p tv0 rb ∧ (∀ b ∈ rs, b.1 ≠ rb) ∧ rb ≠ sb)
    (hn : ∀ a ∈ rs, (f a).k = 4 → p.from_ (f a).n = true → ∃ o, Leads p o ∧ (f a).n = (o.addr : Int)) (hsb : sb ≠ p.kb ∧ sb ≠ p.hb ∧ sb ≠ p.hv ∧ sb ≠ p.wb ∧ sb ≠ p.nb ∧ (∀ o ∈ p.O, (p.pl o.addr).1 ≠ sb)) (hrs : ∀ b ∈ rs, b.1 ≠ sb)
    (hQ : ∀ (s8 s26 s27 s28 s29 s30 s31 s32 s33 s34 s35 s36 s37 s38 : Value) (w' : World), RelRM p tv0 w0 sb P rs f rs.length w' → Q (.exit 0) ⟨#[u0,u1,u2,u3,u4,(.pointer (some ⟨p.kb,0,none⟩)),(.map (some sb)),u7,s8,u9,Ja,Jb,Jc,Jd,Je,Jf,Jg,Jh,Ji,Jj,Jk,Jl,Jm,(.slice oa rs.length c),(.int .i64 (rs.length : Int)),(.int .i64 (rs.length : Int)),s26,s27,s28,s29,s30,s31,s32,s33,s34,s35,s36,s37,s38,Qd,Qe,Qf,Qg,Qh,Qi,Qj,Qk,Ql,Qm,Qn,Qo,Qp,Qq,Qr,Qs,Qt,Qu,Qv,Qw,Qx,Qy,Qz,Xe,Xg,Xh,Xi,Xj,Xk], []⟩ w') :
    Code.wp Tryd.prog (Cut.piece Tryd.f94 (Cut.loop 6)) Q ⟨#[u0,u1,u2,u3,u4,(.pointer (some ⟨p.kb,0,none⟩)),(.map (some sb)),u7,u8,u9,Ja,Jb,Jc,Jd,Je,Jf,Jg,Jh,Ji,Jj,Jk,Jl,Jm,(.slice oa rs.length c),(.int .i64 (rs.length : Int)),(.int .i64 (0 : Int)),Jq,Jr,Js,Jt,Ju,Jv,Jw,Jx,Jy,Jz,Qa,Qb,Qc,Qd,Qe,Qf,Qg,Qh,Qi,Qj,Qk,Ql,Qm,Qn,Qo,Qp,Qq,Qr,Qs,Qt,Qu,Qv,Qw,Qx,Qy,Qz,Xe,Xg,Xh,Xi,Xj,Xk], []⟩ w0 := by
  conv => arg 2; whnf
  refine wp_loop (InvRM p oa c tv0 w0 sb P rs f u0 u1 u2 u3 u4 u7 u9 Ja Jb Jc Jd Je Jf Jg Jh Ji Jj Jk Jl Jm Qd Qe Qf Qg Qh Qi Qj Qk Ql Qm Qn Qo Qp Qq Qr Qs Qt Qu Qv Qw Qx Qy Qz Xe Xg Xh Xi Xj Xk) (muRM rs.length) ?_ (fun a' wr hI => ?_)
  · exact ⟨0, u8, Jq, Jr, Js, Jt, Ju, Jv, Jw, Jx, Jy, Jz, Qa, Qb, Qc, h0, rfl⟩
  obtain ⟨i, s8, s26, s27, s28, s29, s30, s31, s32, s33, s34, s35, s36, s37, s38, hI⟩ := hI
  obtain ⟨⟨tv, K, l, hH, hS, hlm, hG⟩, rfl⟩ := hI
  have hi := hH.le
  by_cases hil : i < rs.length
  · have hil' : decide ((i : Int) < (rs.length : Int)) = true := by simpa using hil
    have hil2 : (i : Int) < (rs.length : Int) := by omega
    have hi0 : (0 : Int) ≤ (i : Int) := by omega
    obtain ⟨a, ha⟩ : ∃ a, rs[i]? = some a := ⟨_, List.getElem?_eq_getElem hil⟩
    obtain ⟨rfl, hc, hT, hB, hrsb⟩ := hre i a ha
    have har := List.mem_of_getElem? ha
    have hcr : wr.cell? ⟨rb, ro + i, none⟩ = some (.pointer (some ⟨a.1, a.2, none⟩)) := (World.cell?_of_block (a := ⟨rb, ro + i, none⟩) (hG.1.block rb (World.block_lt_of_cell? w0 _ hc) (fun h => h.elim hT (fun h => h.elim (fun ⟨b, hb, e⟩ => hB b hb e) hrsb)))).trans hc
    have hlook := pset_look hS (hH.roots.blk a har) (fun b hb => hH.roots.blk b (List.mem_of_mem_take ((hlm b).1 hb)))
    have b3 : i + 1 ≤ big := by omega
    by_cases hin : a ∈ rs.take i
    · rw [decide_eq_true ((hlm a).2 hin)] at hlook
      have hfin : RelRM p tv0 w0 sb P rs f (i + 1) wr := ⟨tv, K, l, half_skip hH ha hin, hS, fun b => (hlm b).trans ⟨fun h' => (mem_take_succ ha).2 (Or.inl h'), fun h' => ((mem_take_succ ha).1 h').elim id (fun e => e ▸ hin)⟩, hG⟩
      have A1 := Lib.hid hfin
      clear hre hn hc hlm hH hS hG hfin
      have c3 : IntKind.i64.wrap ((i : Int) + 1) = (i : Int) + 1 := wrapk_two i 1 b3
      have c6 : wrap64 ((i : Int) + 1) = (i : Int) + 1 := wrap_two i 1 b3
      go_wp2
      clear c3 c6
      refine ⟨⟨i + 1, _, _, _, _, _, _, _, _, _, _, _, _, _, _, A1.out, rfl⟩, ?_⟩
      simp [muRM, intOf]
      omega
    · rw [decide_eq_false (fun h' => hin ((hlm a).1 h'))] at hlook
      obtain ⟨w1, hput, hS1, hg1⟩ := pset_put hS (hH.roots.blk a har) (fun b hb => hH.roots.blk b (List.mem_of_mem_take ((hlm b).1 hb))) (fun h' => hin ((hlm a).1 h'))
      obtain ⟨s1, s2, s3, s4, s5, s6⟩ := hsb
      have hnown : ¬ Own p tv sb := fun h' => by
        rcases h' with h' | h' | h' | h' | h' | h' | ⟨o, ho, h'⟩
        · exact s1 h'
        · exact s2 h'
        · exact s3 h'
        · exact s4 h'
        · exact own_ne hH.cr.row (show wr.heap[sb]? = _ from hS.choose_spec.choose_spec.1) (by intro cur e; cases e) h'
        · exact s5 h'
        · exact s6 o ho h'
      have hH1 := half_other hH hg1 hnown hrs
      have hG1 : GrewR p (extra rs sb) tv wr tv w1 := ⟨(Turned.refl _ wr).grown hg1 (fun k hk => Or.inl (Or.inr (Or.inr (Option.some.inj hk).symm))), fun _ h => Or.inl h⟩
      obtain ⟨q0, q1, q2, q3⟩ := hH1.roots.cell a har
      rw [if_neg hin] at q0 q1
      have hcall := move_any hp hH1.cr a.1 a.2 _ _ q0 q1 q3 (hH1.roots.out a har) (hn a har)
      have A1 := Lib.hid hlm
      have A2 := Lib.hid hput
      clear hre hn hc hlm q0 q1 q2 q3
      have c3 : IntKind.i64.wrap ((i : Int) + 1) = (i : Int) + 1 := wrapk_two i 1 b3
      have c6 : wrap64 ((i : Int) + 1) = (i : Int) + 1 := wrap_two i 1 b3
      have hput := A2.out
      go_wp2_with (go_at_call 109; refine hcall.mono ?_; rintro e w2 ⟨rfl, hM⟩)
      clear hcall c3 c6 hput A2 hlook
      obtain ⟨tv2, K2, hH2, hG2⟩ := half_new hH1 hA ha hin hM
      have hS2 : PSet w2 sb (l ++ [a]) := hS1.same (hG2.1.block sb hS1.lt (fun h' => h'.elim (fun h' => hnown (tset_own h')) (fun ⟨b, hb, e⟩ => hrs b hb e)))
      refine ⟨⟨i + 1, _, _, _, _, _, _, _, _, _, _, _, _, _, _, ⟨tv2, K2, l ++ [a], half_base hH2, hS2, fun b => ?_, (hG.trans hG1).trans ⟨hG2.1.mono (fun j h' => h'.imp id Or.inl), hG2.2⟩⟩, rfl⟩, ?_⟩
      · rw [mem_take_succ ha, List.mem_append, A1.out b]
        simp
      · simp [muRM, intOf]
        omega
  · have hie : i = rs.length := by omega
    subst hie
    have hil' : decide ((rs.length : Int) < (rs.length : Int)) = false := by simp
    clear hre hn
    go_wp2
    exact ⟨tv, K, l, hH, hS, hlm, hG⟩

end Go.Proofs.YthbkklnahhdgcaaDoor.ChYb

namespace Go.Proofs.YthbkklnahhdgcaaDoor.ChYc
open Go Go.Proofs Go.RowKit Go.Maps Go.Proofs.YthbkklnahhdgcaaDoor.Lib HeapR HeapA ChA ChB ChT ChCa ChCc ChCd ChD ChE ChF ChG ChH ChI ChJ ChK ChL ChM ChN ChO ChP ChQ ChR ChU ChX ChYa ChYb

/-- Major's collector: z is where its blocks begin. -/
def majPar (z hb nb mb : Nat) (ov rv : Value) (B : Nat) (H : HS) (nu ol : List Ob) (src : Nat → Prop) (ro : Nat → Option (TypeId × Array Value)) : Par :=
  { kb := z + 1, hb := hb, hv := hb, wb := z, nb := nb, B := B, room := H.room, HB := hblock nb mb ov rv H, maj := true, O := nu ++ ol, base := [], pl := fun a => if a < H.room then (nb, a * 8) else (ov.ownBlock.getD 0, (a - H.room) * 8), src := src, ro := ro }
variable {w : World} {hb nb mb z : Nat} {ov rv : Value} {B : Nat} {H : HS} {nu ol : List Ob} {src : Nat → Prop} {ro : Nat → Option (TypeId × Array Value)}
theorem majPar_from (n : Int) : (majPar z hb nb mb ov rv B H nu ol src ro).from_ n = true := rfl
theorem majPar_z : (majPar z hb nb mb ov rv B H nu ol src ro).z = H.room := rfl
theorem old_some (h : HR w hb nb mb ov rv B H) (hi : HI H nu ol) {o : Ob} (ho : o ∈ ol) : ∃ g c, ov = .slice (some ⟨g, 0, none⟩) H.old.length c := by
  have h1 := laid_in hi.oa ho
  have h2 := len_pos o
  have h3 := hi.olen
  obtain ⟨g, c, e⟩ := row_slice h.old (by omega)
  exact ⟨g, c, e⟩
theorem pl_nu (hi : HI H nu ol) {o : Ob} (ho : o ∈ nu) : (majPar z hb nb mb ov rv B H nu ol src ro).pl o.addr = (nb, o.addr * 8) := by
  have h1 := min_addr hi ho
  have h2 := len_pos o
  show (if o.addr < H.room then _ else _) = _
  rw [if_pos (by omega)]
theorem pl_ol (hi : HI H nu ol) {o : Ob} (ho : o ∈ ol) : (majPar z hb nb mb ov rv B H nu ol src ro).pl o.addr = (ov.ownBlock.getD 0, (o.addr - H.room) * 8) := by
  have h1 := laid_in hi.oa ho
  show (if o.addr < H.room then _ else _) = _
  rw [if_neg (by omega)]
theorem own_old (h : HR w hb nb mb ov rv B H) (hi : HI H nu ol) {o : Ob} (ho : o ∈ ol) : ov.ownBlock = some (ov.ownBlock.getD 0) := by
  obtain ⟨g, c, rfl⟩ := old_some h hi ho
  rfl
theorem maj_size (h : HR w hb nb mb ov rv B H) (hi : HI H nu ol) : H.room + total (nu ++ ol) + 1 ≤ big := by
  have h1 := h.om
  have h2 := h.mm
  have h3 := h.rr
  have h4 := hi.fit
  rw [hi.olen] at h1
  rw [total_append]
  unfold big
  omega
theorem majPar_ok (h : HR w hb nb mb ov rv B H) (hi : HI H nu ol) (hn : H.next ≤ 4611686018427387904) (hz : w.heap.size ≤ z) : (majPar z hb nb mb ov rv B H nu ol src ro).OK := by
  have hl := fun {k : Nat} (hk : Owns hb nb mb ov rv k) => h.lt hk
  have hbl := hl (.inl rfl)
  have hnl := hl (.inr (.inl rfl))
  have hov : ∀ k, ov.ownBlock = some k → k < w.heap.size := fun k hk => hl (.inr (.inr (.inr (.inl hk))))
  have hsz := maj_size h hi
  have hpl : ∀ o ∈ nu ++ ol, Owns hb nb mb ov rv ((majPar z hb nb mb ov rv B H nu ol src ro).pl o.addr).1 ∧ ((majPar z hb nb mb ov rv B H nu ol src ro).pl o.addr).1 ≠ hb := fun o ho => by
    rcases List.mem_append.mp ho with ho | ho
    · rw [pl_nu hi ho]
      exact ⟨.inr (.inl rfl), fun e => h.hn e.symm⟩
    · rw [pl_ol hi ho]
      have h1 := own_old h hi ho
      refine ⟨.inr (.inr (.inr (.inl h1))), fun e => h.oh ?_⟩
      rw [h1]
      exact congrArg some e
  exact {
    h0 := ⟨_, rfl⟩
    h3 := rfl
    place := fun o ho => by
      rcases List.mem_append.mp ho with ho | ho
      · exact Or.inl ⟨min_addr hi ho, pl_nu hi ho⟩
      · obtain ⟨g, c, e⟩ := old_some h hi ho
        have h1 := laid_in hi.oa ho
        refine Or.inr ⟨rfl, h1.1, g, H.old.length, c, fun e2 => h.on ?_, ?_, ?_, ?_⟩
        · rw [e]
          exact congrArg some e2
        · rw [e]
          rfl
        · show o.addr - H.room + o.len ≤ H.old.length
          have := hi.olen
          omega
        · rw [pl_ol hi ho, e]
          rfl
    apart := fun x hx y hy => by
      rcases List.mem_append.mp hx with hx | hx <;> rcases List.mem_append.mp hy with hy | hy
      · rw [pl_nu hi hx, pl_nu hi hy]
        rcases laid_two hi.na hx hy with h1 | h1 | h1
        · exact Or.inl (by rw [h1])
        · exact Or.inr (Or.inr (Or.inl (by show x.addr * 8 + x.len * 8 ≤ y.addr * 8; omega)))
        · exact Or.inr (Or.inr (Or.inr (by show y.addr * 8 + y.len * 8 ≤ x.addr * 8; omega)))
      · rw [pl_nu hi hx, pl_ol hi hy]
        exact Or.inr (Or.inl (fun e => h.on (by rw [own_old h hi hy]; exact congrArg some (Eq.symm e))))
      · rw [pl_ol hi hx, pl_nu hi hy]
        exact Or.inr (Or.inl (fun e => h.on (by rw [own_old h hi hx]; exact congrArg some e)))
      · rw [pl_ol hi hx, pl_ol hi hy]
        have g1 := laid_in hi.oa hx
        have g2 := laid_in hi.oa hy
        rcases laid_two hi.oa hx hy with h1 | h1 | h1
        · exact Or.inl (by rw [h1])
        · exact Or.inr (Or.inr (Or.inl (by show (x.addr - H.room) * 8 + x.len * 8 ≤ (y.addr - H.room) * 8; omega)))
        · exact Or.inr (Or.inr (Or.inr (by show (y.addr - H.room) * 8 + y.len * 8 ≤ (x.addr - H.room) * 8; omega)))
    sole := hi.apart
    nd := hi.nodup
    closed := fun o ho v hv hk _ => hi.refs o ho v hv hk
    size := by
      show H.room + 0 + total (nu ++ ol) + 1 ≤ big
      omega
    addr := fun o ho => by
      rw [total_append] at hsz
      rcases List.mem_append.mp ho with ho | ho
      · have := min_addr hi ho
        omega
      · have := laid_in hi.oa ho
        omega
    ids := fun o ho => by
      have h1 := hi.ids o ho
      omega
    from_ := fun _ _ => rfl
    kh := by show z + 1 ≠ hb; omega
    kv := by show z + 1 ≠ hb; omega
    wk := by show z ≠ z + 1; omega
    pk := fun o ho => by
      obtain ⟨h1, h2⟩ := hpl o ho
      have h3 := hl h1
      refine ⟨?_, h2, h2, ?_⟩
      · show _ ≠ z + 1
        omega
      · show _ ≠ z
        omega
    wh := by show z ≠ hb; omega
    wv := by show z ≠ hb; omega
    nk := by show nb ≠ z + 1; omega
    nh := by show nb ≠ hb; exact fun e => h.hn e.symm
    nv := by show nb ≠ hb; exact fun e => h.hn e.symm
    nw := by show nb ≠ z; omega }

theorem majPar_start (h : HR w hb nb mb ov rv B H) (hi : HI H nu ol) (_hz : w.heap.size ≤ z) {w3 : World} (hk : w3.heap[z + 1]? = some (kblk hb (.slice none 0 0) (.func (Fn.func 114) #[] #[]) (.map (some z))))
    (hm : w3.ownsMap Tryd.prog 3 (plainElem Tryd.prog 3) z 0 (.map [] : DataW Unit)) (hT : Below w.heap.size w w3) :
    CR (majPar z hb nb mb ov rv B H nu ol src ro) w3 (.slice none 0 0) [] (fun _ => false) := by
  have h3 : HR w3 hb nb mb ov rv B H := h.below hT
  have hbl := h.lt (.inl rfl)
  have hzs := hT.size
  exact {
    kblk := hk
    hblk := h3.blk
    hvar := fun e => by cases e
    row := World.ownsRow_nil _ _ _ _
    map := hm
    src := fun o ho => by
      rcases List.mem_append.mp ho with ho | ho
      · rw [pl_nu hi ho]
        refine ⟨hcells H.nur, h3.nur, fun i c hc j v hv' => ?_⟩
        rw [mark_out _ _ _ has_nil] at hc
        have h1 := laid_cells hi.na ho hc
        rw [← hi.nur, Nat.sub_zero, List.getElem?_take] at h1
        have h2 : H.nur[o.addr + i]? = some c := by
          split at h1
          · exact h1
          · cases h1
        have h4 := hcells_get H.nur (o.addr + i) j c h2 (vals_lt hv')
        show (hcells H.nur)[o.addr * 8 + i * 8 + j]? = some v
        rw [show o.addr * 8 + i * 8 + j = (o.addr + i) * 8 + j by omega, h4]
        exact hv'
      · rw [pl_ol hi ho]
        have hrow := h3.old
        rcases hrow.2 with ⟨_, h2⟩ | ⟨g, cap, cur, e, _, hg, hle, _, hsz, ht⟩
        · have h4 := laid_in hi.oa ho
          have h5 := len_pos o
          have h6 := hi.olen
          omega
        · refine ⟨cur, by rw [e]; exact hg, fun i c hc j v hv' => ?_⟩
          rw [mark_out _ _ _ has_nil] at hc
          have h1 := laid_cells hi.oa ho hc
          rw [← hi.old] at h1
          have hjl := (List.getElem?_eq_some_iff.1 h1).1
          have hj8 := vals_lt hv'
          have h2 := hvals_get H.old (o.addr - H.room + i) j c h1 hj8
          rw [← ht, List.getElem?_take_of_lt (by omega), Array.getElem?_toList] at h2
          show cur[(o.addr - H.room) * 8 + i * 8 + j]? = some v
          rw [show (o.addr - H.room) * 8 + i * 8 + j = (o.addr - H.room + i) * 8 + j by omega, h2]
          exact hv'
    led := fun i c hp => by cases hp
    lt := fun i hp => by cases hp
    inO := fun o ho => by cases ho
    nd := List.nodup_nil
    come := fun o ho => by cases ho
    nurs := ⟨H.nur, h.len, h3.nur⟩
    low := by
      show B ≤ w3.heap.size
      have := h.ge (.inl rfl)
      omega
    hvl := by show hb < w3.heap.size; omega
    tk := by simp [Value.ownBlock]
    th := by simp [Value.ownBlock]
    tw := by simp [Value.ownBlock]
    ts := fun o _ => by simp [Value.ownBlock]
    tn := by simp [Value.ownBlock]
    tvv := by simp [Value.ownBlock] }
theorem maj_own {k : Nat} (hz : w.heap.size ≤ z) (h : HR w hb nb mb ov rv B H) (hi : HI H nu ol) (hl : k < w.heap.size) (ho : ¬ Owns hb nb mb ov rv k) : ¬ Own (majPar z hb nb mb ov rv B H nu ol src ro) (.slice none 0 0) k := by
  intro h'
  rcases h' with h' | h' | h' | h' | h' | h' | ⟨o, hoO, h'⟩
  · have h2 : k = z + 1 := h'
    omega
  · exact ho (.inl h')
  · exact ho (.inl h')
  · have h2 : k = z := h'
    omega
  · simp [Value.ownBlock] at h'
  · exact ho (.inr (.inl h'))
  · rcases List.mem_append.mp (show o ∈ nu ++ ol from hoO) with hoO | hoO
    · rw [pl_nu hi hoO] at h'
      exact ho (.inr (.inl h'.symm))
    · rw [pl_ol hi hoO] at h'
      exact ho (.inr (.inr (.inr (.inl ((own_old h hi hoO).trans (congrArg some h'))))))
end Go.Proofs.YthbkklnahhdgcaaDoor.ChYc
