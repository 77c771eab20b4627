/-
  The document's Lead: its inner walk.
-/
import Derived.Test.YthbkklnahhdgcaaDoorPG12
import Derived.Test.YthbkklnahhdgcaaDoorPG02
import Derived.Laws.EntriesVeiled
set_option maxRecDepth 100000
set_option maxHeartbeats 4000000
namespace Go.Proofs.YthbkklnahhdgcaaDoor.PlLa
open Go Go.Proofs Go.RowKit Go.Maps Go.Proofs.YthbkklnahhdgcaaDoor.Lib HeapR HeapB HeapC HeapD HeapG HeapH ErrC ChA ChT ChCa ChCc ChE ChH ChI ChK ChL ChN ChO ChP ChR ChV ChW ChZ PlT PlZ PlL

variable {T : List Th}
/-- The set of what was seen. -/
def Sh (w : World) (sb : Nat) (seen : List Int) : Prop := ∃ D, w.ownsMap Tryd.prog 3 (plainElem Tryd.prog 4) sb seen.length D ∧ ReadsB D (fun a => decide (a ∈ seen))
theorem Sh.same {w w' : World} {sb : Nat} {seen : List Int} (h : Sh w sb seen) (e : w'.heap[sb]? = w.heap[sb]?) : Sh w' sb seen := by
  obtain ⟨D, h1, h2⟩ := h
  exact ⟨D, HeapF.ownsMap_same h1 e, h2⟩
theorem Sh.lt {w : World} {sb : Nat} {seen : List Int} (h : Sh w sb seen) : sb < w.heap.size := by
  obtain ⟨D, h1, _⟩ := h
  exact h1.lt
def leadV (sv lb kb : Nat) : Value := .func (Fn.func 107) #[] #[.pointer (some ⟨sv, 0, none⟩), .pointer (some ⟨lb, 0, none⟩), .pointer (some ⟨kb, 0, none⟩)]
/-- What Lead's walk stands on. -/
structure Lx (w : World) (sv lb kb sb : Nat) (oa : Option Addr) (cT : Nat) (T : List Th) : Prop where
  s : w.cell? ⟨sv, 0, none⟩ = some (.map (some sb))
  ns : sv ≠ sb
  l : w.cell? ⟨lb, 0, none⟩ = some (.slice oa T.length cT)
  nl : lb ≠ sb
  k : w.cell? ⟨kb, 0, none⟩ = some (leadV sv lb kb)
  nk : kb ≠ sb
  th : ∀ (a : Nat) (t : Th), T[a]? = some t → ∃ g, oa = some ⟨g, 0, none⟩ ∧ g ≠ sb ∧ w.cell? ⟨g, a, none⟩ = some (.pointer (some ⟨t.b, 0, none⟩)) ∧ w.cell? ⟨t.b, 4, none⟩ = some t.iv ∧ w.ownsRow 0 3 1 t.iv t.is.length (t.is.map (Value.int .i64)) ∧ t.b ≠ sb ∧ ∀ k, t.iv.ownBlock = some k → k ≠ sb
theorem Lx.turned {w w' : World} {sv lb kb sb cT : Nat} {oa : Option Addr} (h : Lx w sv lb kb sb oa cT T) (hT : Turned (fun k => k = sb) w w') : Lx w' sv lb kb sb oa cT T :=
  { h with
    s := (hT.cell (p := ⟨sv, 0, none⟩) (World.block_lt_of_cell? w _ h.s) h.ns).trans h.s
    l := (hT.cell (p := ⟨lb, 0, none⟩) (World.block_lt_of_cell? w _ h.l) h.nl).trans h.l
    k := (hT.cell (p := ⟨kb, 0, none⟩) (World.block_lt_of_cell? w _ h.k) h.nk).trans h.k
    th := fun a t ht => by
      obtain ⟨g, e1, e2, e3, e4, e5, e6, e7⟩ := h.th a t ht
      exact ⟨g, e1, e2, (hT.cell (p := ⟨g, a, none⟩) (World.block_lt_of_cell? w _ e3) e2).trans e3, (hT.cell (p := ⟨t.b, 4, none⟩) (World.block_lt_of_cell? w _ e4) e6).trans e4, ownsRow_same e5 (fun k hk => hT.block k (own_lt e5 hk).2 (e7 k hk)), e6, e7⟩ }
/-- What the walk says, with so many things not seen. -/
def Says (sv lb kb sb : Nat) (oa : Option Addr) (cT : Nat) (T : List Th) (m : Nat) : Prop :=
  ∀ (x : Int) (s : List Int) (w : World), Lx w sv lb kb sb oa cT T → Fit T x → Sh w sb s → s.length + uns T.length s ≤ T.length → uns T.length s ≤ m →
    Calls Tryd.prog 107 #[.int .i64 x, .pointer (some ⟨sv, 0, none⟩), .pointer (some ⟨lb, 0, none⟩), .pointer (some ⟨kb, 0, none⟩)] w fun e w' => e = .returned (.tuple #[]) ∧ ∃ s', Sh w' sb s' ∧ Turned (fun k => k = sb) w w' ∧ Led T [x] s s'
def RelL (w0 : World) (sb : Nat) (T : List Th) (xs : List Int) (s0 : List Int) (i : Nat) (wr : World) : Prop := ∃ s, Sh wr sb s ∧ Turned (fun k => k = sb) w0 wr ∧ Led T (xs.take i) s0 s
theorem Led.step {xs : List Int} {i : Nat} {y : Int} {s s1 s2 : List Int} (hy : xs[i]? = some y) (h1 : Led T (xs.take i) s s1) (h2 : Led T [y] s1 s2) : Led T (xs.take (i + 1)) s s2 := by
  rw [List.take_add_one, hy]
  exact h1.snoc h2

def Inv_walk_loop (w0 : World) (sv lb kb sb : Nat) (_oa oI : Option Addr) (_cT cI _m : Nat) (T : List Th) (xs s0 : List Int) (u0 u4 u5 u7 u8 u9 Ja Jb Jc Jd Je Jf Jg Jh Ji Jj Jk Jl Jm Jn Jo Jp : Value) (a : Act) (wr : World) : Prop :=
  ∃ (i : Nat) (s6 s29 s30 s31 s32 s33 s34 s35 : Value), i ≤ xs.length ∧ (RelL w0 sb T xs s0 i wr) ∧ a = ⟨#[u0,(.pointer (some ⟨sv,0,none⟩)),(.pointer (some ⟨lb,0,none⟩)),(.pointer (some ⟨kb,0,none⟩)),u4,u5,s6,u7,u8,u9,Ja,Jb,Jc,Jd,Je,Jf,Jg,Jh,Ji,Jj,Jk,Jl,Jm,Jn,Jo,Jp,(.slice oI xs.length cI),(.int .i64 (xs.length : Int)),(.int .i64 (i : Int)),s29,s30,s31,s32,s33,s34,s35], []⟩
def mu_walk_loop (n : Nat) (a : Act) (_ : World) : Nat := n - (intOf (a.tmps.getD 28 undef)).toNat

theorem walk_loop {Q : Exit → Act → World → Prop} {u0 u4 u5 u6 u7 u8 u9 Ja Jb Jc Jd Je Jf Jg Jh Ji Jj Jk Jl Jm Jn Jo Jp Jt Ju Jv Jw Jx Jy Jz : Value} (w0 : World) (sv lb kb sb : Nat) (oa oI : Option Addr) (cT cI m : Nat) (T : List Th) (xs s0 : List Int) (w : World) (hS : Says sv lb kb sb oa cT T m) (hx : Lx w0 sv lb kb sb oa cT T) (hl : xs.length ≤ big) (hfit : ∀ x ∈ xs, Fit T x) (hroom : s0.length + uns T.length s0 ≤ T.length) (hm : uns T.length s0 ≤ m)
    (hrow : ∀ (i : Nat) (y : Int), xs[i]? = some y → ∃ gI, oI = some ⟨gI, 0, none⟩ ∧ gI ≠ sb ∧ w0.cell? ⟨gI, i, none⟩ = some (.int .i64 y))
    (h0 : RelL w0 sb T xs s0 0 w)
    (hQ : ∀ (s6 s29 s30 s31 s32 s33 s34 s35 : Value) (w' : World), (RelL w0 sb T xs s0 xs.length w') → Q (.exit 0) ⟨#[u0,(.pointer (some ⟨sv,0,none⟩)),(.pointer (some ⟨lb,0,none⟩)),(.pointer (some ⟨kb,0,none⟩)),u4,u5,s6,u7,u8,u9,Ja,Jb,Jc,Jd,Je,Jf,Jg,Jh,Ji,Jj,Jk,Jl,Jm,Jn,Jo,Jp,(.slice oI xs.length cI),(.int .i64 (xs.length : Int)),(.int .i64 (xs.length : Int)),s29,s30,s31,s32,s33,s34,s35], []⟩ w') :
    Code.wp Tryd.prog (Cut.piece Tryd.f107 (Cut.loop 3)) Q ⟨#[u0,(.pointer (some ⟨sv,0,none⟩)),(.pointer (some ⟨lb,0,none⟩)),(.pointer (some ⟨kb,0,none⟩)),u4,u5,u6,u7,u8,u9,Ja,Jb,Jc,Jd,Je,Jf,Jg,Jh,Ji,Jj,Jk,Jl,Jm,Jn,Jo,Jp,(.slice oI xs.length cI),(.int .i64 (xs.length : Int)),(.int .i64 (0 : Int)),Jt,Ju,Jv,Jw,Jx,Jy,Jz], []⟩ w := by
  conv => arg 2; whnf
  refine wp_loop (Inv_walk_loop w0 sv lb kb sb oa oI cT cI m T xs s0 u0 u4 u5 u7 u8 u9 Ja Jb Jc Jd Je Jf Jg Jh Ji Jj Jk Jl Jm Jn Jo Jp) (mu_walk_loop (xs.length)) ?_ (fun a' wr hI => ?_)
  · exact ⟨0, u6, Jt, Ju, Jv, Jw, Jx, Jy, Jz, Nat.zero_le _, h0, rfl⟩
  obtain ⟨i, s6, s29, s30, s31, s32, s33, s34, s35, hI⟩ := hI
  obtain ⟨hib, hR, rfl⟩ := hI
  clear h0
  obtain ⟨s, hSh, hT, hL⟩ := hR
  have hX := hx.turned hT
  have hk := hX.k
  unfold leadV at hk
  by_cases hil : i < xs.length
  · obtain ⟨y, hy⟩ : ∃ y, xs[i]? = some y := ⟨_, List.getElem?_eq_getElem hil⟩
    obtain ⟨gI, hoI, hnI, hcI⟩ := hrow i y hy
    subst hoI
    have y1 : wr.cell? ⟨gI, i, none⟩ = some (.int .i64 y) := (hT.cell (p := ⟨gI, i, none⟩) (World.block_lt_of_cell? w0 _ hcI) hnI).trans hcI
    have hil' : decide ((i : Int) < (xs.length : Int)) = true := by simpa using hil
    have hil2 : (i : Int) < (xs.length : Int) := by omega
    have hi0 : (0 : Int) ≤ (i : Int) := by omega
    have c3 : IntKind.i64.wrap ((i : Int) + 1) = (i : Int) + 1 := wrapk_two i 1 (by unfold big at hl ⊢; omega)
    have c6 : wrap64 ((i : Int) + 1) = (i : Int) + 1 := wrap_two i 1 (by unfold big at hl ⊢; omega)
    have hcall := hS y s wr hX (hfit y (List.mem_of_getElem? hy)) hSh (hL.room hroom) (Nat.le_trans (hL.uns _) hm)
    have A1 := Lib.hid hL
    have A2 := Lib.hid hT
    clear hL hT hSh hX hroom hm hS hfit hcI
    go_wp2_with fail
    refine hcall.mono ?_
    rintro e w2 ⟨rfl, s2, hSh2, hT2, hL2⟩
    have A3 := Lib.hid (show RelL w0 sb T xs s0 (i + 1) w2 from ⟨s2, hSh2, A2.out.trans hT2, Led.step hy A1.out hL2⟩)
    clear hcall hSh2 hT2 hL2 y1 hk
    go_wp2
    clear c3 c6
    refine ⟨⟨i + 1, _, _, _, _, _, _, _, _, by omega, A3.out, rfl⟩, ?_⟩
    simp [mu_walk_loop, intOf]
    omega
  · have hie : i = xs.length := by omega
    subst hie
    have hil' : decide ((xs.length : Int) < (xs.length : Int)) = false := by simp
    have A1 := Lib.hid (show RelL w0 sb T xs s0 xs.length wr from ⟨s, hSh, hT, hL⟩)
    clear hSh hT hL hS hfit hrow hx hX
    go_wp2
    exact A1.out

def Inv_lead_loop (w0 : World) (_sv _lb kb sb : Nat) (_oa oI : Option Addr) (_cT cI _m : Nat) (T : List Th) (xs s0 : List Int) (u0 u1 u2 u3 u4 u5 u7 u9 Ja Jl : Value) (a : Act) (wr : World) : Prop :=
  ∃ (i : Nat) (s8 s14 s15 s16 s17 s18 s19 s20 : Value), i ≤ xs.length ∧ (RelL w0 sb T xs s0 i wr) ∧ a = ⟨#[u0, u1, u2, u3, u4, u5, (.pointer (some ⟨kb, 0, none⟩)), u7, s8, u9, Ja, (.slice oI xs.length cI), (.int .i64 (xs.length : Int)), (.int .i64 (i : Int)), s14, s15, s16, s17, s18, s19, s20, Jl], []⟩
def mu_lead_loop (n : Nat) (a : Act) (_ : World) : Nat := n - (intOf (a.tmps.getD 13 undef)).toNat

theorem lead_loop {Q : Exit → Act → World → Prop} {u0 u1 u2 u3 u4 u5 u7 u8 u9 Ja Je Jf Jg Jh Ji Jj Jk Jl : Value} (w0 : World) (sv lb kb sb : Nat) (oa oI : Option Addr) (cT cI m : Nat) (T : List Th) (xs s0 : List Int) (w : World) (hS : Says sv lb kb sb oa cT T m) (hx : Lx w0 sv lb kb sb oa cT T) (hl : xs.length ≤ big) (hfit : ∀ x ∈ xs, Fit T x) (hroom : s0.length + uns T.length s0 ≤ T.length) (hm : uns T.length s0 ≤ m)
    (hrow : ∀ (i : Nat) (y : Int), xs[i]? = some y → ∃ gI, oI = some ⟨gI, 0, none⟩ ∧ gI ≠ sb ∧ w0.cell? ⟨gI, i, none⟩ = some (.int .i64 y))
    (h0 : RelL w0 sb T xs s0 0 w)
    (hQ : ∀ (s8 s14 s15 s16 s17 s18 s19 s20 : Value) (w' : World), (RelL w0 sb T xs s0 xs.length w') → Q (.exit 0) ⟨#[u0, u1, u2, u3, u4, u5, (.pointer (some ⟨kb, 0, none⟩)), u7, s8, u9, Ja, (.slice oI xs.length cI), (.int .i64 (xs.length : Int)), (.int .i64 (xs.length : Int)), s14, s15, s16, s17, s18, s19, s20, Jl], []⟩ w') :
    Code.wp Tryd.prog (Cut.piece Tryd.f92 (Cut.loop 5)) Q ⟨#[u0, u1, u2, u3, u4, u5, (.pointer (some ⟨kb, 0, none⟩)), u7, u8, u9, Ja, (.slice oI xs.length cI), (.int .i64 (xs.length : Int)), (.int .i64 (0 : Int)), Je, Jf, Jg, Jh, Ji, Jj, Jk, Jl], []⟩ w := by
  conv => arg 2; whnf
  refine wp_loop (Inv_lead_loop w0 sv lb kb sb oa oI cT cI m T xs s0 u0 u1 u2 u3 u4 u5 u7 u9 Ja Jl) (mu_lead_loop (xs.length)) ?_ (fun a' wr hI => ?_)
  · exact ⟨0, u8, Je, Jf, Jg, Jh, Ji, Jj, Jk, Nat.zero_le _, h0, rfl⟩
  obtain ⟨i, s8, s14, s15, s16, s17, s18, s19, s20, hI⟩ := hI
  obtain ⟨hib, hR, rfl⟩ := hI
  clear h0
  obtain ⟨s, hSh, hT, hL⟩ := hR
  have hX := hx.turned hT
  have hk := hX.k
  unfold leadV at hk
  by_cases hil : i < xs.length
  · obtain ⟨y, hy⟩ : ∃ y, xs[i]? = some y := ⟨_, List.getElem?_eq_getElem hil⟩
    obtain ⟨gI, hoI, hnI, hcI⟩ := hrow i y hy
    subst hoI
    have y1 : wr.cell? ⟨gI, i, none⟩ = some (.int .i64 y) := (hT.cell (p := ⟨gI, i, none⟩) (World.block_lt_of_cell? w0 _ hcI) hnI).trans hcI
    have hil' : decide ((i : Int) < (xs.length : Int)) = true := by simpa using hil
    have hil2 : (i : Int) < (xs.length : Int) := by omega
    have hi0 : (0 : Int) ≤ (i : Int) := by omega
    have c3 : IntKind.i64.wrap ((i : Int) + 1) = (i : Int) + 1 := wrapk_two i 1 (by unfold big at hl ⊢; omega)
    have c6 : wrap64 ((i : Int) + 1) = (i : Int) + 1 := wrap_two i 1 (by unfold big at hl ⊢; omega)
    have hcall := hS y s wr hX (hfit y (List.mem_of_getElem? hy)) hSh (hL.room hroom) (Nat.le_trans (hL.uns _) hm)
    have A1 := Lib.hid hL
    have A2 := Lib.hid hT
    clear hL hT hSh hX hroom hm hS hfit hcI
    go_wp2_with fail
    refine hcall.mono ?_
    rintro e w2 ⟨rfl, s2, hSh2, hT2, hL2⟩
    have A3 := Lib.hid (show RelL w0 sb T xs s0 (i + 1) w2 from ⟨s2, hSh2, A2.out.trans hT2, Led.step hy A1.out hL2⟩)
    clear hcall hSh2 hT2 hL2 y1 hk
    go_wp2
    clear c3 c6
    refine ⟨⟨i + 1, _, _, _, _, _, _, _, _, by omega, A3.out, rfl⟩, ?_⟩
    simp [mu_lead_loop, intOf]
    omega
  · have hie : i = xs.length := by omega
    subst hie
    have hil' : decide ((xs.length : Int) < (xs.length : Int)) = false := by simp
    have A1 := Lib.hid (show RelL w0 sb T xs s0 xs.length wr from ⟨s, hSh, hT, hL⟩)
    clear hSh hT hL hS hfit hrow hx hX
    go_wp2
    exact A1.out

end Go.Proofs.YthbkklnahhdgcaaDoor.PlLa

namespace Go.Proofs.YthbkklnahhdgcaaDoor.PlLb
open Go Go.Proofs Go.RowKit Go.Maps Go.Proofs.YthbkklnahhdgcaaDoor.Lib HeapR HeapB HeapC HeapD HeapG HeapH ErrC ChA ChT ChCa ChCc ChE ChH ChI ChK ChL ChN ChO ChP ChR ChV ChW ChZ PlT PlZ PlL PlLa

variable {w : World} {sv lb kb sb cT : Nat} {oa : Option Addr} {T : List Th}
theorem walk_none (x : Int) (w : World) (hx : x ≤ 0) :
    Calls Tryd.prog 107 #[.int .i64 x, .pointer (some ⟨sv, 0, none⟩), .pointer (some ⟨lb, 0, none⟩), .pointer (some ⟨kb, 0, none⟩)] w fun e w' => e = .returned (.tuple #[]) ∧ w' = w := by
  have g1 : decide (1 ≤ x) = false := by simp; omega
  go_enter Tryd.func107, Tryd.ntmps107
  go_wp2
  refine bodyPost_end (results_none Tryd.results107 _ _ _) rfl ?_
  exact ⟨rfl, rfl⟩
theorem walk_seen (x : Int) (a : Nat) (s : List Int) (w : World) (hx : x = (a : Int) + 1) (ha : a < big) (h : Lx w sv lb kb sb oa cT T) (hS : Sh w sb s) (hin : (a : Int) ∈ s) :
    Calls Tryd.prog 107 #[.int .i64 x, .pointer (some ⟨sv, 0, none⟩), .pointer (some ⟨lb, 0, none⟩), .pointer (some ⟨kb, 0, none⟩)] w fun e w' => e = .returned (.tuple #[]) ∧ w' = w := by
  have hbig := big_lt
  have g1 : decide (1 ≤ x) = true := by simp; omega
  have k1 : IntKind.i64.wrap (x - 1) = (a : Int) := by
    rw [hx, Int.add_sub_cancel]
    exact IntWalk.i64_in _ (by omega)
  have hwf : (Lit.int .i64 (a : Int)).wf = true := lit_wf _ (by omega) (by omega)
  obtain ⟨D, m1, m2⟩ := hS
  have hl := look_bool m1 m2 (a : Int) hwf
  rw [decide_eq_true hin] at hl
  have hs := h.s
  clear m1 m2 hin h hx ha hbig
  go_enter Tryd.func107, Tryd.ntmps107
  go_wp2
  refine bodyPost_end (results_none Tryd.results107 _ _ _) rfl ?_
  exact ⟨rfl, rfl⟩
theorem walk_new (m : Nat) (x : Int) (a : Nat) (s : List Int) (w : World) (hx : x = (a : Int) + 1) {t : Th} (ht : T[a]? = some t) (hth : t.here = true) (hcl : PlL.Shut T) (hTl : T.length ≤ 1000) (hil : t.is.length ≤ 1000) (h : Lx w sv lb kb sb oa cT T) (hS : Sh w sb s) (hin : (a : Int) ∉ s)
    (hroom : s.length + uns T.length s ≤ T.length) (hm : uns T.length s ≤ m + 1) (hsay : Says sv lb kb sb oa cT T m) :
    Calls Tryd.prog 107 #[.int .i64 x, .pointer (some ⟨sv, 0, none⟩), .pointer (some ⟨lb, 0, none⟩), .pointer (some ⟨kb, 0, none⟩)] w fun e w' => e = .returned (.tuple #[]) ∧ ∃ s', Sh w' sb s' ∧ Turned (fun k => k = sb) w w' ∧ Led T [x] s s' := by
  have hbig := big_lt
  have hal := (List.getElem?_eq_some_iff.1 ht).1
  have g1 : decide (1 ≤ x) = true := by simp; omega
  have k1 : IntKind.i64.wrap (x - 1) = (a : Int) := by
    rw [hx, Int.add_sub_cancel]
    exact IntWalk.i64_in _ (by unfold big at hbig; omega)
  have hwf : (Lit.int .i64 (a : Int)).wf = true := lit_wf _ (by omega) (by unfold big at hbig; omega)
  obtain ⟨D, m1, m2⟩ := hS
  have hl := look_bool m1 m2 (a : Int) hwf
  rw [decide_eq_false hin] at hl
  have hs := h.s
  have hul := uns_lt hal hin
  have hSm : s.length < maxLen := lt_max _ (by unfold big; omega)
  have hroom2 : (s ++ [(a : Int)]).length + uns T.length (s ++ [(a : Int)]) ≤ T.length := by
    rw [List.length_append]
    simp only [List.length_cons, List.length_nil]
    omega
  have hm2 : uns T.length (s ++ [(a : Int)]) ≤ m := by omega
  have a0 : (0 : Int) ≤ (a : Int) := by omega
  have a1 : (a : Int) < (T.length : Int) := by omega
  have A0 := Lib.hid h
  have A1 := Lib.hid hroom2
  have A2 := Lib.hid hm2
  have A3 := Lib.hid hsay
  have A4 := Lib.hid hcl
  have A5 := Lib.hid hx
  have A6 := Lib.hid hin
  clear h hroom2 hm2 hsay hcl hx hin hroom hm hbig hul
  go_enter Tryd.func107, Tryd.ntmps107
  go_wp2_with (at_mapUpdate; go_loud (refine wpList_mapUpdate_own _ rfl _ _ _ 210 rfl 3 4 (int_keyed Tryd.underlying3) Tryd.underlying210 _ sb s.length D rfl m1 hSm _ _ (.int .i64 (a : Int)) rfl rfl (keyOf_int_mk Tryd.underlying3 hwf) _ [] (plainElem_bool Tryd.underlying4 true) ?grow))
  intro w3 hm3 hg3
  have hSn : Sh w3 sb (s ++ [(a : Int)]) := ⟨_, (by rw [List.length_append]; exact hm3), (by
    have h2 := readsB_put m2 (a : Int)
    refine ⟨h2.map, fun b => ?_⟩
    have e : (decide (b = (a : Int)) || decide (b ∈ s)) = decide (b ∈ s ++ [(a : Int)]) := by
      rw [Bool.eq_iff_iff]
      simp only [Bool.or_eq_true, decide_eq_true_eq, List.mem_append, List.mem_singleton]
      exact or_comm
    rw [h2.at_ b, e])⟩
  have hT3 : Turned (fun k => k = sb) w w3 := (Turned.refl _ w).grown hg3 (fun k hk => .inl (Option.some.inj hk).symm)
  have hX3 := A0.out.turned hT3
  obtain ⟨g, rfl, hn, e3, e4, e5, e6, e7⟩ := hX3.th a t ht
  obtain ⟨oI, cI, hiv⟩ := row_form e5
  rw [hiv] at e4
  have z1 := hX3.l
  have B1 := Lib.hid hX3
  have B2 := Lib.hid hSn
  have B3 := Lib.hid hT3
  have B4 := Lib.hid e7
  have B5 := Lib.hid e5
  clear hm3 hg3 m1 m2 hl hT3 hSn hX3 e7 e5 hs
  go_wp2_with fail
  have hrow : ∀ (i : Nat) (y : Int), t.is[i]? = some y → ∃ gI, oI = some ⟨gI, 0, none⟩ ∧ gI ≠ sb ∧ w3.cell? ⟨gI, i, none⟩ = some (.int .i64 y) := fun i y hy => by
    have hi := (List.getElem?_eq_some_iff.1 hy).1
    have h5 := B5.out
    obtain ⟨gI, cI', hg⟩ := row_slice h5 (by omega)
    rw [hiv] at hg
    cases hg
    refine ⟨gI, rfl, B4.out gI (by rw [hiv]; rfl), ?_⟩
    rw [hiv] at h5
    rw [h5.cellAt i (by omega), List.getElem?_map, hy]
    rfl
  have C1 := Lib.hid hrow
  clear hrow
  refine walk_loop w3 sv lb kb sb _ oI cT cI m T t.is (s ++ [(a : Int)]) w3 A3.out B1.out (by unfold big; omega) (A4.out t (List.mem_of_getElem? ht) hth) A1.out A2.out C1.out ⟨_, B2.out, Turned.refl _ w3, Led.nil T _⟩ ?_
  intro s0 s1 s2 s3 s4 s5 s6 s7 w5 hR
  have C2 := Lib.hid hR
  clear hR
  go_wp2
  refine bodyPost_end (results_none Tryd.results107 _ _ _) rfl ?_
  obtain ⟨s', r1, r2, r3⟩ := C2.out
  rw [List.take_length] at r3
  have hx2 := A5.out
  subst hx2
  exact ⟨rfl, s', r1, B3.out.trans r2, Led.node ht A6.out r3⟩
/-- However many are not seen. -/
theorem walk_any (hcl : PlL.Shut T) (hTl : T.length ≤ 1000) (hil : ∀ t ∈ T, t.is.length ≤ 1000) (m : Nat) : Says sv lb kb sb oa cT T m := by
  have base : ∀ (m : Nat) (x : Int) (s : List Int) (w : World), Lx w sv lb kb sb oa cT T → Fit T x → Sh w sb s → s.length + uns T.length s ≤ T.length → uns T.length s ≤ m → (∀ (a : Nat) (t : Th), x = (a : Int) + 1 → T[a]? = some t → t.here = true → (a : Int) ∉ s → Calls Tryd.prog 107 #[.int .i64 x, .pointer (some ⟨sv, 0, none⟩), .pointer (some ⟨lb, 0, none⟩), .pointer (some ⟨kb, 0, none⟩)] w fun e w' => e = .returned (.tuple #[]) ∧ ∃ s', Sh w' sb s' ∧ Turned (fun k => k = sb) w w' ∧ Led T [x] s s') →
      Calls Tryd.prog 107 #[.int .i64 x, .pointer (some ⟨sv, 0, none⟩), .pointer (some ⟨lb, 0, none⟩), .pointer (some ⟨kb, 0, none⟩)] w fun e w' => e = .returned (.tuple #[]) ∧ ∃ s', Sh w' sb s' ∧ Turned (fun k => k = sb) w w' ∧ Led T [x] s s' := by
    intro m x s w h hf hS hroom hm hnew
    rcases hf with hx | ⟨a, t, hx, ht, hth⟩
    · refine (walk_none x w hx).mono ?_
      rintro e w' ⟨rfl, rfl⟩
      exact ⟨rfl, s, hS, Turned.refl _ _, Led.stay (fun h1 => by omega)⟩
    · have hal := (List.getElem?_eq_some_iff.1 ht).1
      by_cases hin : (a : Int) ∈ s
      · refine (walk_seen x a s w hx (by unfold big; omega) h hS hin).mono ?_
        rintro e w' ⟨rfl, rfl⟩
        exact ⟨rfl, s, hS, Turned.refl _ _, Led.stay (fun _ => by rw [hx, Int.add_sub_cancel]; exact hin)⟩
      · exact hnew a t hx ht hth hin
  induction m with
  | zero =>
    intro x s w h hf hS hroom hm
    refine base 0 x s w h hf hS hroom hm (fun a t hx ht hth hin => ?_)
    have hul := uns_lt (List.getElem?_eq_some_iff.1 ht).1 hin
    omega
  | succ m ih =>
    intro x s w h hf hS hroom hm
    exact base (m + 1) x s w h hf hS hroom hm (fun a t hx ht hth hin => walk_new m x a s w hx ht hth hcl hTl (hil t (List.mem_of_getElem? ht)) h hS hin hroom hm ih)

end Go.Proofs.YthbkklnahhdgcaaDoor.PlLb

namespace Go.Proofs.YthbkklnahhdgcaaDoor.PlLc
open Go Go.Proofs Go.RowKit Go.Maps Go.Proofs.YthbkklnahhdgcaaDoor.Lib HeapR HeapB HeapC HeapD HeapG HeapH ErrC ChA ChT ChCa ChCc ChE ChH ChI ChK ChL ChN ChO ChP ChR ChV ChW ChZ PlT PlZ PlL PlLa PlLb

variable {w : World} {T : List Th}
theorem sh_new (w : World) : Sh (w.alloc (.map #[] 0)) w.heap.size [] := by
  refine ⟨_, World.ownsMap_made w _ _ _, ?_⟩
  have e : (fun a => decide (a ∈ ([] : List Int))) = fun _ => false := by
    funext a
    simp
  rw [e]
  exact readsB_empty
theorem Lead_ok (oa oI : Option Addr) (cT cI : Nat) (xs : List Int) (hcl : PlL.Shut T) (hTl : T.length ≤ 1000) (hil : ∀ t ∈ T, t.is.length ≤ 1000) (hl : xs.length ≤ big) (hfit : ∀ x ∈ xs, Fit T x)
    (hth : ∀ (a : Nat) (t : Th), T[a]? = some t → ∃ g, oa = some ⟨g, 0, none⟩ ∧ w.cell? ⟨g, a, none⟩ = some (.pointer (some ⟨t.b, 0, none⟩)) ∧ w.cell? ⟨t.b, 4, none⟩ = some t.iv ∧ w.ownsRow 0 3 1 t.iv t.is.length (t.is.map (Value.int .i64)))
    (hrow : ∀ (i : Nat) (y : Int), xs[i]? = some y → ∃ gI, oI = some ⟨gI, 0, none⟩ ∧ w.cell? ⟨gI, i, none⟩ = some (.int .i64 y)) :
    Calls Tryd.prog 92 #[.slice oa T.length cT, .slice oI xs.length cI] w fun e w' => ∃ mb s', e = .returned (.map (some mb)) ∧ w.heap.size ≤ mb ∧ Sh w' mb s' ∧ Below w.heap.size w w' ∧ Led T xs [] s' := by
  have d0 : Below w.heap.size w ((((w.alloc (.cells #[.slice oa T.length cT] 76 (0, 0))).alloc (.map #[] 0)).alloc (.cells #[.map (some (w.heap.size + 1))] 210 (0, 0))).alloc (.cells #[(leadV (w.heap.size + 1 + 1) w.heap.size (w.heap.size + 1 + 1 + 1))] 235 (0, 0))) := by
    have h1 := (Below.refl w.heap.size w).alloc (Nat.le_refl _) (.cells #[.slice oa T.length cT] 76 (0, 0))
    have h2 := h1.alloc h1.size (.map #[] 0)
    have h3 := h2.alloc h2.size (.cells #[.map (some (w.heap.size + 1))] 210 (0, 0))
    exact h3.alloc h3.size _
  have n1 : (w.alloc (.cells #[.slice oa T.length cT] 76 (0, 0))).heap.size = w.heap.size + 1 := by simp
  have n2 : ((w.alloc (.cells #[.slice oa T.length cT] 76 (0, 0))).alloc (.map #[] 0)).heap.size = w.heap.size + 1 + 1 := by simp
  have n3 : (((w.alloc (.cells #[.slice oa T.length cT] 76 (0, 0))).alloc (.map #[] 0)).alloc (.cells #[.map (some (w.heap.size + 1))] 210 (0, 0))).heap.size = w.heap.size + 1 + 1 + 1 := by simp
  have d3 : ((((w.alloc (.cells #[.slice oa T.length cT] 76 (0, 0))).alloc (.map #[] 0)).alloc (.cells #[.map (some (w.heap.size + 1))] 210 (0, 0))).alloc (.cells #[(leadV (w.heap.size + 1 + 1) w.heap.size (w.heap.size + 1 + 1 + 1))] 235 (0, 0))).heap[w.heap.size + 1 + 1 + 1]? = some (.cells #[(leadV (w.heap.size + 1 + 1) w.heap.size (w.heap.size + 1 + 1 + 1))] 235 (0, 0)) := heap_alloc_at (w := (((w.alloc (.cells #[.slice oa T.length cT] 76 (0, 0))).alloc (.map #[] 0)).alloc (.cells #[.map (some (w.heap.size + 1))] 210 (0, 0)))) n3 _
  have d2 : ((((w.alloc (.cells #[.slice oa T.length cT] 76 (0, 0))).alloc (.map #[] 0)).alloc (.cells #[.map (some (w.heap.size + 1))] 210 (0, 0))).alloc (.cells #[(leadV (w.heap.size + 1 + 1) w.heap.size (w.heap.size + 1 + 1 + 1))] 235 (0, 0))).heap[w.heap.size + 1 + 1]? = some (.cells #[.map (some (w.heap.size + 1))] 210 (0, 0)) := by
    rw [Below.heap_alloc _ _ _ (by omega)]
    exact heap_alloc_at (w := ((w.alloc (.cells #[.slice oa T.length cT] 76 (0, 0))).alloc (.map #[] 0))) n2 _
  have d1 : ((((w.alloc (.cells #[.slice oa T.length cT] 76 (0, 0))).alloc (.map #[] 0)).alloc (.cells #[.map (some (w.heap.size + 1))] 210 (0, 0))).alloc (.cells #[(leadV (w.heap.size + 1 + 1) w.heap.size (w.heap.size + 1 + 1 + 1))] 235 (0, 0))).heap[w.heap.size + 1]? = ((w.alloc (.cells #[.slice oa T.length cT] 76 (0, 0))).alloc (.map #[] 0)).heap[w.heap.size + 1]? := by
    rw [Below.heap_alloc _ _ _ (by omega), Below.heap_alloc _ _ _ (by omega)]
  have d9 : ((((w.alloc (.cells #[.slice oa T.length cT] 76 (0, 0))).alloc (.map #[] 0)).alloc (.cells #[.map (some (w.heap.size + 1))] 210 (0, 0))).alloc (.cells #[(leadV (w.heap.size + 1 + 1) w.heap.size (w.heap.size + 1 + 1 + 1))] 235 (0, 0))).heap[w.heap.size]? = some (.cells #[.slice oa T.length cT] 76 (0, 0)) := by
    rw [Below.heap_alloc _ _ _ (by omega), Below.heap_alloc _ _ _ (by omega), Below.heap_alloc _ _ _ (by omega)]
    exact heap_alloc_last w _
  have dS : Sh ((((w.alloc (.cells #[.slice oa T.length cT] 76 (0, 0))).alloc (.map #[] 0)).alloc (.cells #[.map (some (w.heap.size + 1))] 210 (0, 0))).alloc (.cells #[(leadV (w.heap.size + 1 + 1) w.heap.size (w.heap.size + 1 + 1 + 1))] 235 (0, 0))) (w.heap.size + 1) [] := by
    have h1 := sh_new (w.alloc (.cells #[.slice oa T.length cT] 76 (0, 0)))
    rw [n1] at h1
    exact h1.same d1
  have A1 := Lib.hid d0
  have A2 := Lib.hid d3
  have A3 := Lib.hid d2
  have A4 := Lib.hid d9
  have A5 := Lib.hid dS
  have A6 := Lib.hid hth
  have A7 := Lib.hid hrow
  have A8 := Lib.hid hcl
  have A9 := Lib.hid hfit
  clear d0 d3 d2 d1 d9 dS hth hrow n1 n2 n3 hcl hfit
  unfold leadV at A1 A2 A3 A4 A5
  have hmm := @run_makeMap Tryd.prog
  go_enter Tryd.func92, Tryd.ntmps92
  go_wp2_with fail
  generalize ((((w.alloc (.cells #[.slice oa T.length cT] 76 (0, 0))).alloc (.map #[] 0)).alloc (.cells #[.map (some (w.heap.size + 1))] 210 (0, 0))).alloc (.cells #[(.func (Fn.func 107) #[] #[.pointer (some ⟨w.heap.size + 1 + 1, 0, none⟩), .pointer (some ⟨w.heap.size, 0, none⟩), .pointer (some ⟨w.heap.size + 1 + 1 + 1, 0, none⟩)])] 235 (0, 0))) = w5 at *
  have hz5 : w.heap.size + 1 < w5.heap.size := A5.out.lt
  have lo : ∀ {k : Nat}, k < w.heap.size → k ≠ w.heap.size + 1 := fun hk e => by omega
  have hX : Lx w5 (w.heap.size + 1 + 1) w.heap.size (w.heap.size + 1 + 1 + 1) (w.heap.size + 1) oa cT T := {
    s := cell_of_block A3.out rfl
    ns := by omega
    l := cell_of_block A4.out rfl
    nl := by omega
    k := cell_of_block A2.out rfl
    nk := by omega
    th := fun a t ht => by
      obtain ⟨g, e1, e2, e3, e4⟩ := A6.out a t ht
      have l2 := World.block_lt_of_cell? w _ e2
      have l3 := World.block_lt_of_cell? w _ e3
      exact ⟨g, e1, lo l2, (A1.out.cell (p := ⟨g, a, none⟩) l2).trans e2, (A1.out.cell (p := ⟨t.b, 4, none⟩) l3).trans e3, ownsRow_same e4 (fun k hk => A1.out.block k (own_lt e4 hk).2), lo l3, fun k hk => lo (own_lt e4 hk).2⟩ }
  have hrw : ∀ (i : Nat) (y : Int), xs[i]? = some y → ∃ gI, oI = some ⟨gI, 0, none⟩ ∧ gI ≠ w.heap.size + 1 ∧ w5.cell? ⟨gI, i, none⟩ = some (.int .i64 y) := fun i y hy => by
    obtain ⟨gI, e1, e2⟩ := A7.out i y hy
    have l2 := World.block_lt_of_cell? w _ e2
    exact ⟨gI, e1, lo l2, (A1.out.cell (p := ⟨gI, i, none⟩) l2).trans e2⟩
  have hroom : ([] : List Int).length + uns T.length [] ≤ T.length := by rw [uns_nil]; simp
  have hS : Says (w.heap.size + 1 + 1) w.heap.size (w.heap.size + 1 + 1 + 1) (w.heap.size + 1) oa cT T (uns T.length []) := walk_any A8.out hTl hil _
  have B1 := Lib.hid hX
  have B2 := Lib.hid hrw
  have B3 := Lib.hid hS
  clear hX hrw hS hmm
  refine lead_loop w5 (w.heap.size + 1 + 1) w.heap.size (w.heap.size + 1 + 1 + 1) (w.heap.size + 1) oa oI cT cI _ T xs [] w5 B3.out B1.out hl A9.out hroom (Nat.le_refl _) B2.out ⟨_, A5.out, Turned.refl _ w5, Led.nil T _⟩ ?_
  intro s0 s1 s2 s3 s4 s5 s6 s7 w6 hR
  obtain ⟨s', r1, r2, r3⟩ := hR
  have hs6 := (B1.out.turned r2).s
  have C1 := Lib.hid r1
  have C2 := Lib.hid r2
  have C3 := Lib.hid r3
  clear r1 r2 r3
  go_wp2
  go_ret
  have r3 := C3.out
  rw [List.take_length] at r3
  exact ⟨_, s', rfl, Nat.le_succ _, C1.out, A1.out.trans (C2.out.below (by omega) (fun k hk => by omega)), r3⟩

end Go.Proofs.YthbkklnahhdgcaaDoor.PlLc

namespace Go.Proofs.YthbkklnahhdgcaaDoor.PlLd
open Go Go.Proofs Go.RowKit Go.Maps Go.Proofs.YthbkklnahhdgcaaDoor.Lib HeapR HeapB HeapC HeapD HeapG HeapH ErrC ChA ChT ChCa ChCc ChE ChH ChI ChK ChL ChN ChO ChP ChR ChV ChW ChZ PlT PlZ PlL PlLa PlLb PlLc

variable {w : World} {T : List Th}
theorem in_two (lv mb i : Nat) (s : List Int) (w : World) (hi : i ≤ 1000) (hl : w.cell? ⟨lv, 0, none⟩ = some (.map (some mb))) (hS : Sh w mb s) :
    Calls Tryd.prog 95 #[.int .i64 (i : Int), .pointer (some ⟨lv, 0, none⟩)] w fun e w' => e = .returned (.bool (decide ((i : Int) ∈ s))) ∧ w' = w := by
  obtain ⟨D, m1, m2⟩ := hS
  have hk := look_bool m1 m2 (i : Int) (lit_wf _ (by omega) (by omega))
  clear m1 m2
  go_enter Tryd.func95, Tryd.ntmps95
  go_wp2
  go_ret
  exact ⟨rfl, rfl⟩
theorem in_all (i : Nat) (w : World) :
    Calls Tryd.prog 96 #[.int .i64 (i : Int)] w fun e w' => e = .returned (.bool true) ∧ w' = w := by
  go_enter Tryd.func96, Tryd.ntmps96
  go_wp2
  go_ret
  exact ⟨rfl, rfl⟩
/-- The cells of what is there, of the first i. -/
def cellsOf (T : List Th) (q : Nat → Bool) : Nat → Int
  | 0 => 0
  | i + 1 => cellsOf T q i + match T[i]? with
    | some t => if (t.here && q i) = true then 1 + (t.is.length : Int) else 0
    | none => 0
theorem cellsOf_le {q : Nat → Bool} (hil : ∀ t ∈ T, t.is.length ≤ 1000) (i : Nat) : 0 ≤ cellsOf T q i ∧ cellsOf T q i ≤ i * 1001 := by
  induction i with
  | zero => exact ⟨Int.le_refl _, Int.le_refl _⟩
  | succ i ih =>
    cases ht : T[i]? with
    | none =>
      have e : cellsOf T q (i + 1) = cellsOf T q i := by
        rw [cellsOf, ht]
        exact Int.add_zero _
      rw [e]
      omega
    | some t =>
      have h1 := hil t (List.mem_of_getElem? ht)
      have e : cellsOf T q (i + 1) = cellsOf T q i + if (t.here && q i) = true then 1 + (t.is.length : Int) else 0 := by rw [cellsOf, ht]
      rw [e]
      by_cases hb : (t.here && q i) = true
      · rw [if_pos hb]
        omega
      · rw [if_neg hb]
        omega
theorem cellsOf_succ {q : Nat → Bool} {i : Nat} {t : Th} (h : T[i]? = some t) : cellsOf T q (i + 1) = cellsOf T q i + if (t.here && q i) = true then 1 + (t.is.length : Int) else 0 := by
  rw [cellsOf, h]
/-- What the zoo says to who counts. -/
structure Zs (w : World) (zx zb : Nat) (oa oE : Option Addr) (cT cE : Nat) (T : List Th) : Prop where
  x : w.cell? ⟨zx, 0, none⟩ = some (.pointer (some ⟨zb, 0, none⟩))
  z1 : w.cell? ⟨zb, 1, none⟩ = some (.slice oa T.length cT)
  z3 : w.cell? ⟨zb, 3, none⟩ = some (.slice oE T.length cE)
  th : ∀ (i : Nat) (t : Th), T[i]? = some t → ∃ g gE oI cI, oa = some ⟨g, 0, none⟩ ∧ oE = some ⟨gE, 0, none⟩ ∧ w.cell? ⟨g, i, none⟩ = some (.pointer (some ⟨t.b, 0, none⟩)) ∧ w.cell? ⟨t.b, 4, none⟩ = some (.slice oI t.is.length cI) ∧ w.cell? ⟨gE, i, none⟩ = some (.bool t.here)

def Inv_cells_two (w0 : World) (zx _zb : Nat) (_oa _oE : Option Addr) (_cT _cE : Nat) (T : List Th) (q : Nat → Bool) (lv : Nat) (u2 u3 Qf : Value) (a : Act) (wr : World) : Prop :=
  ∃ (i : Nat) (s6 s7 s8 s9 s10 s11 s12 s13 s14 s15 s16 s17 s18 s19 s20 s21 s22 s23 s24 s25 s26 s27 s28 s29 s30 s31 s32 s33 s34 s35 s36 s37 s38 s39 s40 : Value), i ≤ T.length ∧ (wr = w0) ∧ a = ⟨#[(.func (Fn.func 95) #[] #[.pointer (some ⟨lv, 0, none⟩)]), (.pointer (some ⟨zx, 0, none⟩)), u2, u3, (.int .i64 (cellsOf T q i)), (.int .i64 (i : Int)), s6, s7, s8, s9, s10, s11, s12, s13, s14, s15, s16, s17, s18, s19, s20, s21, s22, s23, s24, s25, s26, s27, s28, s29, s30, s31, s32, s33, s34, s35, s36, s37, s38, s39, s40, Qf], []⟩
def mu_cells_two (n : Nat) (a : Act) (_ : World) : Nat := n - (intOf (a.tmps.getD 5 undef)).toNat

theorem cells_two {Q : Exit → Act → World → Prop} {u2 u3 u6 u7 u8 u9 Ja Jb Jc Jd Je Jf Jg Jh Ji Jj Jk Jl Jm Jn Jo Jp Jq Jr Js Jt Ju Jv Jw Jx Jy Jz Qa Qb Qc Qd Qe Qf : Value} (w0 : World) (zx zb : Nat) (oa oE : Option Addr) (cT cE : Nat) (T : List Th) (q : Nat → Bool) (lv : Nat) (w : World) (hz : Zs w0 zx zb oa oE cT cE T) (hTl : T.length ≤ 1000) (hil : ∀ t ∈ T, t.is.length ≤ 1000) (hin : ∀ i : Nat, i < T.length → Calls Tryd.prog 95 #[.int .i64 (i : Int), .pointer (some ⟨lv, 0, none⟩)] w0 fun e w' => e = .returned (.bool (q i)) ∧ w' = w0)
    (h0 : w = w0)
    (hQ : ∀ (s6 s7 s8 s9 s10 s11 s12 s13 s14 s15 s16 s17 s18 s19 s20 s21 s22 s23 s24 s25 s26 s27 s28 s29 s30 s31 s32 s33 s34 s35 s36 s37 s38 s39 s40 : Value) (w' : World), (w' = w0) → Q (.exit 0) ⟨#[(.func (Fn.func 95) #[] #[.pointer (some ⟨lv, 0, none⟩)]), (.pointer (some ⟨zx, 0, none⟩)), u2, u3, (.int .i64 (cellsOf T q (T.length))), (.int .i64 (T.length : Int)), s6, s7, s8, s9, s10, s11, s12, s13, s14, s15, s16, s17, s18, s19, s20, s21, s22, s23, s24, s25, s26, s27, s28, s29, s30, s31, s32, s33, s34, s35, s36, s37, s38, s39, s40, Qf], []⟩ w') :
    Code.wp Tryd.prog (Cut.piece Tryd.f91 (Cut.loop 3)) Q ⟨#[(.func (Fn.func 95) #[] #[.pointer (some ⟨lv, 0, none⟩)]), (.pointer (some ⟨zx, 0, none⟩)), u2, u3, (.int .i64 (cellsOf T q 0)), (.int .i64 (0 : Int)), u6, u7, u8, u9, Ja, Jb, Jc, Jd, Je, Jf, Jg, Jh, Ji, Jj, Jk, Jl, Jm, Jn, Jo, Jp, Jq, Jr, Js, Jt, Ju, Jv, Jw, Jx, Jy, Jz, Qa, Qb, Qc, Qd, Qe, Qf], []⟩ w := by
  conv => arg 2; whnf
  refine wp_loop (Inv_cells_two w0 zx zb oa oE cT cE T q lv u2 u3 Qf) (mu_cells_two (T.length)) ?_ (fun a' wr hI => ?_)
  · exact ⟨0, u6, u7, u8, u9, Ja, Jb, Jc, Jd, Je, Jf, Jg, Jh, Ji, Jj, Jk, Jl, Jm, Jn, Jo, Jp, Jq, Jr, Js, Jt, Ju, Jv, Jw, Jx, Jy, Jz, Qa, Qb, Qc, Qd, Qe, Nat.zero_le _, h0, rfl⟩
  obtain ⟨i, s6, s7, s8, s9, s10, s11, s12, s13, s14, s15, s16, s17, s18, s19, s20, s21, s22, s23, s24, s25, s26, s27, s28, s29, s30, s31, s32, s33, s34, s35, s36, s37, s38, s39, s40, hI⟩ := hI
  obtain ⟨hib, hR, rfl⟩ := hI
  clear h0
  subst hR
  have hx := hz.x
  have y1 := hz.z1
  have y3 := hz.z3
  have hc := cellsOf_le (q := q) hil i
  have hc1 := cellsOf_le (q := q) hil (i + 1)
  by_cases hib2 : i < T.length
  · obtain ⟨t, ht⟩ : ∃ t, T[i]? = some t := ⟨_, List.getElem?_eq_getElem hib2⟩
    obtain ⟨g, gE, oI, cI, rfl, rfl, e1, e2, e3⟩ := hz.th i t ht
    have g0 : decide ((i : Int) < (T.length : Int)) = true := by simpa using hib2
    have j1 : (i : Int) < (T.length : Int) := by omega
    have j0 : (0 : Int) ≤ (i : Int) := by omega
    have c3 : IntKind.i64.wrap ((i : Int) + 1) = (i : Int) + 1 := IntWalk.i64_in _ (by omega)
    have c6 : wrap64 ((i : Int) + 1) = (i : Int) + 1 := wrap_two i 1 (by unfold big; omega)
    have hcall := hin i hib2
    have hs := cellsOf_succ (q := q) ht
    have hl := hil t (List.mem_of_getElem? ht)
    cases hh : t.here with
    | false =>
      rw [hh] at e3 hs
      rw [Bool.false_and, if_neg (by decide), Int.add_zero] at hs
      rw [← hs] at hc ⊢
      clear hz hin hcall hs hc hc1
      go_wp2
      clear c3 c6
      refine ⟨⟨i + 1, _, _, _, _, _, _, _, _, _, _, _, _, _, _, _, _, _, _, _, _, _, _, _, _, _, _, _, _, _, _, _, _, _, _, _, by omega, rfl, rfl⟩, ?_⟩
      simp [mu_cells_two, intOf]
      omega
    | true =>
      rw [hh, Bool.true_and] at hs
      rw [hh] at e3
      cases hq : q i with
      | false =>
        rw [hq, if_neg (by decide), Int.add_zero] at hs
        rw [hq] at hcall
        rw [← hs] at hc ⊢
        clear hz hin hs hc hc1
        go_wp2_with fail
        refine hcall.mono ?_
        rintro e w2 ⟨rfl, rfl⟩
        clear hcall
        go_wp2
        clear c3 c6
        refine ⟨⟨i + 1, _, _, _, _, _, _, _, _, _, _, _, _, _, _, _, _, _, _, _, _, _, _, _, _, _, _, _, _, _, _, _, _, _, _, _, by omega, rfl, rfl⟩, ?_⟩
        simp [mu_cells_two, intOf]
        omega
      | true =>
        rw [hq, if_pos rfl] at hs
        rw [hq] at hcall
        have k1 : IntKind.i64.wrap (1 + (t.is.length : Int)) = 1 + (t.is.length : Int) := IntWalk.i64_in _ (by omega)
        have k2 : IntKind.i64.wrap (cellsOf T q i + (1 + (t.is.length : Int))) = cellsOf T q i + (1 + (t.is.length : Int)) := IntWalk.i64_in _ (by omega)
        have A1 := Lib.hid hs
        clear hz hin hs hc hc1
        go_wp2_with fail
        refine hcall.mono ?_
        rintro e w2 ⟨rfl, rfl⟩
        clear hcall
        go_wp2
        clear c3 c6
        rw [← A1.out]
        refine ⟨⟨i + 1, _, _, _, _, _, _, _, _, _, _, _, _, _, _, _, _, _, _, _, _, _, _, _, _, _, _, _, _, _, _, _, _, _, _, _, by omega, rfl, rfl⟩, ?_⟩
        simp [mu_cells_two, intOf]
        omega
  · have hie : i = T.length := by omega
    subst hie
    have g0 : decide ((T.length : Int) < (T.length : Int)) = false := by simp
    clear hz hin hc hc1
    go_wp2
    first | done | exact rfl

def Inv_cells_all (w0 : World) (zx _zb : Nat) (_oa _oE : Option Addr) (_cT _cE : Nat) (T : List Th) (q : Nat → Bool)  (u2 u3 Qf : Value) (a : Act) (wr : World) : Prop :=
  ∃ (i : Nat) (s6 s7 s8 s9 s10 s11 s12 s13 s14 s15 s16 s17 s18 s19 s20 s21 s22 s23 s24 s25 s26 s27 s28 s29 s30 s31 s32 s33 s34 s35 s36 s37 s38 s39 s40 : Value), i ≤ T.length ∧ (wr = w0) ∧ a = ⟨#[(.func (Fn.func 96) #[] #[]), (.pointer (some ⟨zx, 0, none⟩)), u2, u3, (.int .i64 (cellsOf T q i)), (.int .i64 (i : Int)), s6, s7, s8, s9, s10, s11, s12, s13, s14, s15, s16, s17, s18, s19, s20, s21, s22, s23, s24, s25, s26, s27, s28, s29, s30, s31, s32, s33, s34, s35, s36, s37, s38, s39, s40, Qf], []⟩
def mu_cells_all (n : Nat) (a : Act) (_ : World) : Nat := n - (intOf (a.tmps.getD 5 undef)).toNat

theorem cells_all {Q : Exit → Act → World → Prop} {u2 u3 u6 u7 u8 u9 Ja Jb Jc Jd Je Jf Jg Jh Ji Jj Jk Jl Jm Jn Jo Jp Jq Jr Js Jt Ju Jv Jw Jx Jy Jz Qa Qb Qc Qd Qe Qf : Value} (w0 : World) (zx zb : Nat) (oa oE : Option Addr) (cT cE : Nat) (T : List Th) (q : Nat → Bool)  (w : World) (hz : Zs w0 zx zb oa oE cT cE T) (hTl : T.length ≤ 1000) (hil : ∀ t ∈ T, t.is.length ≤ 1000) (hin : ∀ i : Nat, i < T.length → Calls Tryd.prog 96 #[.int .i64 (i : Int)] w0 fun e w' => e = .returned (.bool (q i)) ∧ w' = w0)
    (h0 : w = w0)
    (hQ : ∀ (s6 s7 s8 s9 s10 s11 s12 s13 s14 s15 s16 s17 s18 s19 s20 s21 s22 s23 s24 s25 s26 s27 s28 s29 s30 s31 s32 s33 s34 s35 s36 s37 s38 s39 s40 : Value) (w' : World), (w' = w0) → Q (.exit 0) ⟨#[(.func (Fn.func 96) #[] #[]), (.pointer (some ⟨zx, 0, none⟩)), u2, u3, (.int .i64 (cellsOf T q (T.length))), (.int .i64 (T.length : Int)), s6, s7, s8, s9, s10, s11, s12, s13, s14, s15, s16, s17, s18, s19, s20, s21, s22, s23, s24, s25, s26, s27, s28, s29, s30, s31, s32, s33, s34, s35, s36, s37, s38, s39, s40, Qf], []⟩ w') :
    Code.wp Tryd.prog (Cut.piece Tryd.f91 (Cut.loop 3)) Q ⟨#[(.func (Fn.func 96) #[] #[]), (.pointer (some ⟨zx, 0, none⟩)), u2, u3, (.int .i64 (cellsOf T q 0)), (.int .i64 (0 : Int)), u6, u7, u8, u9, Ja, Jb, Jc, Jd, Je, Jf, Jg, Jh, Ji, Jj, Jk, Jl, Jm, Jn, Jo, Jp, Jq, Jr, Js, Jt, Ju, Jv, Jw, Jx, Jy, Jz, Qa, Qb, Qc, Qd, Qe, Qf], []⟩ w := by
  conv => arg 2; whnf
  refine wp_loop (Inv_cells_all w0 zx zb oa oE cT cE T q  u2 u3 Qf) (mu_cells_all (T.length)) ?_ (fun a' wr hI => ?_)
  · exact ⟨0, u6, u7, u8, u9, Ja, Jb, Jc, Jd, Je, Jf, Jg, Jh, Ji, Jj, Jk, Jl, Jm, Jn, Jo, Jp, Jq, Jr, Js, Jt, Ju, Jv, Jw, Jx, Jy, Jz, Qa, Qb, Qc, Qd, Qe, Nat.zero_le _, h0, rfl⟩
  obtain ⟨i, s6, s7, s8, s9, s10, s11, s12, s13, s14, s15, s16, s17, s18, s19, s20, s21, s22, s23, s24, s25, s26, s27, s28, s29, s30, s31, s32, s33, s34, s35, s36, s37, s38, s39, s40, hI⟩ := hI
  obtain ⟨hib, hR, rfl⟩ := hI
  clear h0
  subst hR
  have hx := hz.x
  have y1 := hz.z1
  have y3 := hz.z3
  have hc := cellsOf_le (q := q) hil i
  have hc1 := cellsOf_le (q := q) hil (i + 1)
  by_cases hib2 : i < T.length
  · obtain ⟨t, ht⟩ : ∃ t, T[i]? = some t := ⟨_, List.getElem?_eq_getElem hib2⟩
    obtain ⟨g, gE, oI, cI, rfl, rfl, e1, e2, e3⟩ := hz.th i t ht
    have g0 : decide ((i : Int) < (T.length : Int)) = true := by simpa using hib2
    have j1 : (i : Int) < (T.length : Int) := by omega
    have j0 : (0 : Int) ≤ (i : Int) := by omega
    have c3 : IntKind.i64.wrap ((i : Int) + 1) = (i : Int) + 1 := IntWalk.i64_in _ (by omega)
    have c6 : wrap64 ((i : Int) + 1) = (i : Int) + 1 := wrap_two i 1 (by unfold big; omega)
    have hcall := hin i hib2
    have hs := cellsOf_succ (q := q) ht
    have hl := hil t (List.mem_of_getElem? ht)
    cases hh : t.here with
    | false =>
      rw [hh] at e3 hs
      rw [Bool.false_and, if_neg (by decide), Int.add_zero] at hs
      rw [← hs] at hc ⊢
      clear hz hin hcall hs hc hc1
      go_wp2
      clear c3 c6
      refine ⟨⟨i + 1, _, _, _, _, _, _, _, _, _, _, _, _, _, _, _, _, _, _, _, _, _, _, _, _, _, _, _, _, _, _, _, _, _, _, _, by omega, rfl, rfl⟩, ?_⟩
      simp [mu_cells_all, intOf]
      omega
    | true =>
      rw [hh, Bool.true_and] at hs
      rw [hh] at e3
      cases hq : q i with
      | false =>
        rw [hq, if_neg (by decide), Int.add_zero] at hs
        rw [hq] at hcall
        rw [← hs] at hc ⊢
        clear hz hin hs hc hc1
        go_wp2_with fail
        refine hcall.mono ?_
        rintro e w2 ⟨rfl, rfl⟩
        clear hcall
        go_wp2
        clear c3 c6
        refine ⟨⟨i + 1, _, _, _, _, _, _, _, _, _, _, _, _, _, _, _, _, _, _, _, _, _, _, _, _, _, _, _, _, _, _, _, _, _, _, _, by omega, rfl, rfl⟩, ?_⟩
        simp [mu_cells_all, intOf]
        omega
      | true =>
        rw [hq, if_pos rfl] at hs
        rw [hq] at hcall
        have k1 : IntKind.i64.wrap (1 + (t.is.length : Int)) = 1 + (t.is.length : Int) := IntWalk.i64_in _ (by omega)
        have k2 : IntKind.i64.wrap (cellsOf T q i + (1 + (t.is.length : Int))) = cellsOf T q i + (1 + (t.is.length : Int)) := IntWalk.i64_in _ (by omega)
        have A1 := Lib.hid hs
        clear hz hin hs hc hc1
        go_wp2_with fail
        refine hcall.mono ?_
        rintro e w2 ⟨rfl, rfl⟩
        clear hcall
        go_wp2
        clear c3 c6
        rw [← A1.out]
        refine ⟨⟨i + 1, _, _, _, _, _, _, _, _, _, _, _, _, _, _, _, _, _, _, _, _, _, _, _, _, _, _, _, _, _, _, _, _, _, _, _, by omega, rfl, rfl⟩, ?_⟩
        simp [mu_cells_all, intOf]
        omega
  · have hie : i = T.length := by omega
    subst hie
    have g0 : decide ((T.length : Int) < (T.length : Int)) = false := by simp
    clear hz hin hc hc1
    go_wp2
    first | done | exact rfl

theorem cells_two_ok (w0 : World) (zx zb : Nat) (oa oE : Option Addr) (cT cE : Nat) (T : List Th) (q : Nat → Bool) (lv : Nat) (hz : Zs w0 zx zb oa oE cT cE T) (hTl : T.length ≤ 1000) (hil : ∀ t ∈ T, t.is.length ≤ 1000) (hin : ∀ i : Nat, i < T.length → Calls Tryd.prog 95 #[.int .i64 (i : Int), .pointer (some ⟨lv, 0, none⟩)] w0 fun e w' => e = .returned (.bool (q i)) ∧ w' = w0) :
    Calls Tryd.prog 91 #[.func (Fn.func 95) #[] #[.pointer (some ⟨lv, 0, none⟩)], .pointer (some ⟨zx, 0, none⟩)] w0 fun e w' => e = .returned (.int .i64 (cellsOf T q T.length)) ∧ w' = w0 := by
  have A0 := Lib.hid hz
  have A1 := Lib.hid hin
  clear hz hin
  go_enter Tryd.func91, Tryd.ntmps91
  go_wp2_with fail
  refine cells_two w0 zx zb oa oE cT cE T q lv w0 A0.out hTl hil A1.out rfl ?_
  intro s0 s1 s2 s3 s4 s5 s6 s7 s8 s9 s10 s11 s12 s13 s14 s15 s16 s17 s18 s19 s20 s21 s22 s23 s24 s25 s26 s27 s28 s29 s30 s31 s32 s33 s34 w1 hw
  subst hw
  go_wp2
  go_ret
  exact ⟨rfl, rfl⟩

theorem cells_all_ok (w0 : World) (zx zb : Nat) (oa oE : Option Addr) (cT cE : Nat) (T : List Th) (q : Nat → Bool)  (hz : Zs w0 zx zb oa oE cT cE T) (hTl : T.length ≤ 1000) (hil : ∀ t ∈ T, t.is.length ≤ 1000) (hin : ∀ i : Nat, i < T.length → Calls Tryd.prog 96 #[.int .i64 (i : Int)] w0 fun e w' => e = .returned (.bool (q i)) ∧ w' = w0) :
    Calls Tryd.prog 91 #[.func (Fn.func 96) #[] #[], .pointer (some ⟨zx, 0, none⟩)] w0 fun e w' => e = .returned (.int .i64 (cellsOf T q T.length)) ∧ w' = w0 := by
  have A0 := Lib.hid hz
  have A1 := Lib.hid hin
  clear hz hin
  go_enter Tryd.func91, Tryd.ntmps91
  go_wp2_with fail
  refine cells_all w0 zx zb oa oE cT cE T q  w0 A0.out hTl hil A1.out rfl ?_
  intro s0 s1 s2 s3 s4 s5 s6 s7 s8 s9 s10 s11 s12 s13 s14 s15 s16 s17 s18 s19 s20 s21 s22 s23 s24 s25 s26 s27 s28 s29 s30 s31 s32 s33 s34 w1 hw
  subst hw
  go_wp2
  go_ret
  exact ⟨rfl, rfl⟩

end Go.Proofs.YthbkklnahhdgcaaDoor.PlLd

namespace Go.Proofs.YthbkklnahhdgcaaDoor.PlU
open Go Go.Proofs Go.RowKit Go.Maps Go.Proofs.YthbkklnahhdgcaaDoor.Lib HeapR ErrC ChA ChT ChCa ChCc ChL ChN ChO PlZ

variable {w : World} {hb nb mb : Nat} {ov rv : Value} {B : Nat} {H : HS}
theorem alloc_arg (kind tag s : Int) (w : World) (h : kind < 1 ∨ 4 < kind ∨ s < 0 ∨ 1000 < s) :
    Calls Tryd.prog 13 #[.pointer (some ⟨hb, 0, none⟩), .int .i64 kind, .int .i64 tag, .int .i64 s] w fun e w' => e = .returned (.tuple #[.int .i64 0, .iface 35 (.int .i64 1)]) ∧ w' = w := by
  rcases Int.lt_or_le kind 1 with h1 | h1
  · have g1 : decide (kind < 1) = true := by simpa using h1
    clear h
    go_enter Tryd.func13, Tryd.ntmps13
    go_wp2
    go_ret2
    exact ⟨rfl, rfl⟩
  have g1 : decide (kind < 1) = false := by simpa using h1
  rcases Int.lt_or_le 4 kind with h2 | h2
  · have g2 : decide (4 < kind) = true := by simpa using h2
    clear h
    go_enter Tryd.func13, Tryd.ntmps13
    go_wp2
    go_ret2
    exact ⟨rfl, rfl⟩
  have g2 : decide (4 < kind) = false := by simpa using h2
  rcases Int.lt_or_le s 0 with h3 | h3
  · have g3 : decide (s < 0) = true := by simpa using h3
    clear h
    go_enter Tryd.func13, Tryd.ntmps13
    go_wp2
    go_ret2
    exact ⟨rfl, rfl⟩
  have g3 : decide (s < 0) = false := by simpa using h3
  have g4 : decide (1000 < s) = true := by
    simp only [decide_eq_true_eq]
    omega
  clear h
  go_enter Tryd.func13, Tryd.ntmps13
  go_wp2
  go_ret2
  exact ⟨rfl, rfl⟩

theorem alloc_full (h : HR w hb nb mb ov rv B H) (kind tag : Int) (s : Nat) (h1 : 1 ≤ kind) (h2 : kind ≤ 4) (h4 : s ≤ 1000) (hf : H.room < H.top + 1 + s) :
    Calls Tryd.prog 13 #[.pointer (some ⟨hb, 0, none⟩), .int .i64 kind, .int .i64 tag, .int .i64 (s : Int)] w fun e w' => e = .returned (.tuple #[.int .i64 0, .iface 35 (.int .i64 12)]) ∧ ∃ n, w' = w.drewN n := by
  have g1 : decide (kind < 1) = false := by simpa using h1
  have g2 : decide (4 < kind) = false := by simpa using h2
  have g3 : decide ((s : Int) < 0) = false := by simp
  have g4 : decide (1000 < (s : Int)) = false := by simp; omega
  have g5 : decide ((H.room : Int) < (H.top : Int) + 1 + s) = true := by simp; omega
  have c2 := h.c2
  have c3 := h.c3
  have htr := h.tr
  have hrr := h.rr
  have k1 : IntKind.i64.wrap ((H.top : Int) + 1) = (H.top : Int) + 1 := IntWalk.i64_in _ (by omega)
  have k2 : IntKind.i64.wrap ((H.top : Int) + 1 + (s : Int)) = (H.top : Int) + 1 + (s : Int) := IntWalk.i64_in _ (by omega)
  clear h hf htr hrr
  go_enter Tryd.func13, Tryd.ntmps13
  go_wp2_with fail
  go_quiet (fail)
  go_wp2
  go_ret2
  exact ⟨rfl, _, rfl⟩

theorem pick_val (a : Int) (n : Nat) (h0 : 0 < n) (h1 : n ≤ big) : ∃ j : Nat, j < n ∧ wrap64 ((IntKind.u64.wrap a).tmod (n : Int)) = (j : Int) := by
  have hq : 0 ≤ IntKind.u64.wrap a := by
    simp [IntKind.wrap, IntKind.bits, IntKind.signed]
    omega
  rw [Int.tmod_eq_emod_of_nonneg hq]
  have e0 : 0 ≤ (IntKind.u64.wrap a) % (n : Int) := Int.emod_nonneg _ (by omega)
  have e1 : (IntKind.u64.wrap a) % (n : Int) < (n : Int) := Int.emod_lt_of_pos _ (by omega)
  refine ⟨((IntKind.u64.wrap a) % (n : Int)).toNat, by omega, ?_⟩
  rw [Int.toNat_of_nonneg e0]
  unfold big at h1
  unfold wrap64
  omega

theorem pick_any (a : Int) (n : Nat) (w : World) (h0 : 0 < n) (h1 : n ≤ big) :
    Calls Tryd.prog 90 #[.int .i64 a, .int .i64 (n : Int)] w fun e w' => (∃ j : Nat, j < n ∧ e = .returned (.int .i64 (j : Int))) ∧ Below w.heap.size w w' := by
  have c1 : IntKind.u64.wrap (n : Int) = (n : Int) := IntWalk.u64_in _ (by unfold big at h1; omega)
  go_enter Tryd.func90, Tryd.ntmps90
  go_wp2
  go_ret
  obtain ⟨j, hj, e⟩ := pick_val a n h0 h1
  rw [e]
  exact ⟨⟨j, hj, rfl⟩, Below.refl _ _⟩
end Go.Proofs.YthbkklnahhdgcaaDoor.PlU
