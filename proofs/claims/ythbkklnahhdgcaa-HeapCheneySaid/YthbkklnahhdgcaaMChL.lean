/-
  Package heap: the map of identities as a plain function; Minor's loop that strikes from it.
-/
import Derived.Test.YthbkklnahhdgcaaMChK
import Derived.Maps.RangeWalk
namespace Go.Proofs.Ythbkklnahhdgcaa.ChL
open Go Go.Proofs Go.RowKit Go.Maps Go.Proofs.Ythbkklnahhdgcaa.Lib Go.Proofs.Ythbkklnahhdgcaa.HeapR Go.Proofs.Ythbkklnahhdgcaa.ChCa Go.Proofs.Ythbkklnahhdgcaa.ChI Go.Proofs.Ythbkklnahhdgcaa.ChK

/-- A map of integers reads as a function. -/
structure Reads (D : DataW Unit) (g : Int → Option Int) : Prop where
  map : IsMap D
  has_ : ∀ id, Maps.has D (.int .i64 id) = (g id).isSome
  at_ : ∀ id c, g id = some c → ∀ z, D.atKey (.int .i64 id) z = .lit (.int .i64 c)
theorem lit_ne {a b : Int} (h : a ≠ b) : (Lit.int .i64 a) ≠ (Lit.int .i64 b) := fun e => h (by cases e; rfl)
theorem lit_key (a : Int) : WideAt.IsKeyLit (Lit.int .i64 a) := trivial
theorem sameKey_int (a b : Int) : (Lit.int .i64 a).sameKey (.int .i64 b) = decide (a = b) := by
  by_cases h : a = b
  · subst h
    rw [WideAt.sameKey_self (lit_key a)]
    simp
  · rw [sameKey_ne (lit_ne h)]
    simp [h]
theorem reads_empty : Reads (.map []) (fun _ => none) := ⟨isMap_empty, fun _ => rfl, fun _ _ h => by cases h⟩
theorem reads_put {D : DataW Unit} {g : Int → Option Int} (h : Reads D g) (id c : Int) : Reads (D.put (.int .i64 id) (.lit (.int .i64 c))) (fun i => if i = id then some c else g i) := by
  refine ⟨h.map.put _ _, fun i => ?_, fun i d hi z => ?_⟩
  · by_cases he : i = id
    · subst he
      rw [has_put_same h.map (lit_key i), if_pos rfl]
      rfl
    · rw [has_put_other (lit_ne he), if_neg he]
      exact h.has_ i
  · by_cases he : i = id
    · subst he
      rw [if_pos rfl] at hi
      cases hi
      exact atKey_put_same h.map (lit_key i) _ z
    · rw [if_neg he] at hi
      rw [atKey_put_other (lit_ne he)]
      exact h.at_ i d hi z
theorem reads_del {D : DataW Unit} {g : Int → Option Int} (h : Reads D g) (id : Int) : Reads (D.del (.int .i64 id)) (fun i => if i = id then none else g i) := by
  refine ⟨h.map.del _, fun i => ?_, fun i d hi z => ?_⟩
  · by_cases he : i = id
    · subst he
      rw [has_del_same, if_pos rfl]
      rfl
    · rw [has_del_other (lit_ne he), if_neg he]
      exact h.has_ i
  · by_cases he : i = id
    · rw [if_pos he] at hi
      cases hi
    · rw [if_neg he] at hi
      rw [atKey_del_other (lit_ne he)]
      exact h.at_ i d hi z
theorem Reads.congr {D : DataW Unit} {g g' : Int → Option Int} (h : Reads D g) (e : ∀ i, g' i = g i) : Reads D g' := (funext e : g' = g) ▸ h
theorem reads_at {D : DataW Unit} {g : Int → Option Int} (h : Reads D g) {id c : Int} (hc : ∀ z, D.atKey (.int .i64 id) z = .lit (.int .i64 c)) : g id = some c := by
  cases hg : g id with
  | none =>
    have h1 := h.has_ id
    rw [hg] at h1
    have h2 := atKey_of_not_has h1 (.lit (.int .i64 (c + 1)))
    rw [hc] at h2
    injection h2 with h2
    injection h2 with _ h2
    omega
  | some d =>
    have h1 := h.at_ id d hg (.lit (.int .i64 0))
    rw [hc] at h1
    injection h1 with h1
    injection h1 with _ h1
    rw [h1]

/-- What is not below room. -/
def Above (room : Int) : Option Int → Option Int
  | some c => if c < room then none else some c
  | none => none
theorem above_lt {room c : Int} (h : c < room) : Above room (some c) = none := by
  show (if c < room then none else some c) = none
  rw [if_pos h]
theorem above_ge {room c : Int} (h : ¬ c < room) : Above room (some c) = some c := by
  show (if c < room then none else some c) = some c
  rw [if_neg h]
/-- What holds at each round of Minor's loop over the map. -/
def RelD (mb r n : Nat) (room : Int) (g0 : Int → Option Int) (w : World) (_ : Nat) (wr : World) : Prop :=
  ∃ D left cnt g, wr.ranges Try.prog 3 (plainElem Try.prog 3) mb r n D left cnt ∧ Reads D g ∧ (∀ id, left (.int .i64 id) = true → g id = g0 id) ∧ (∀ id, left (.int .i64 id) = false → g id = Above room (g0 id)) ∧ Turned (fun k => k = mb ∨ k = r) w wr
/-- What it leaves. -/
def RelDe (mb r n : Nat) (room : Int) (g0 : Int → Option Int) (w : World) (w' : World) : Prop :=
  ∃ D, w'.ownsMap Try.prog 3 (plainElem Try.prog 3) mb n D ∧ Reads D (fun id => Above room (g0 id)) ∧ Turned (fun k => k = mb ∨ k = r) w w'

def InvD (mb r n hv : Nat) (room : Int) (g0 : Int → Option Int) (w : World) (u0 u1 u3 u4 u5 u6 u7 u8 u9 u10 u13 u14 u15 u16 u17 u18 u19 u20 u21 u22 u23 u24 u25 u26 u27 u28 u29 u30 u31 u32 u33 u34 u35 u36 u37 u38 u39 u40 u41 u42 u43 u44 u45 u46 u47 u48 u49 u50 u51 u52 u53 u54 u55 u56 u57 u58 u59 u60 u61 u62 u63 u64 u65 u66 u67 u68 u69 u70 u71 u72 u73 u91 u92 u93 u94 u95 u96 u97 u98 u99 u100 u101 u102 u103 u104 u105 u106 u107 u108 u109 u110 u111 u112 u113 u114 u115 u116 u117 u118 u119 : Value) (a : Act) (wr : World) : Prop :=
  ∃ (s11 s12 s75 s76 s77 s78 s79 s80 s81 s82 s83 s84 s85 s86 s87 s88 s89 s90 : Value), RelD mb r n room g0 w 0 wr ∧ a = ⟨#[u0, u1, (.pointer (some ⟨hv, 0, none⟩)), u3, u4, u5, u6, u7, u8, u9, u10, s11, s12, u13, u14, u15, u16, u17, u18, u19, u20, u21, u22, u23, u24, u25, u26, u27, u28, u29, u30, u31, u32, u33, u34, u35, u36, u37, u38, u39, u40, u41, u42, u43, u44, u45, u46, u47, u48, u49, u50, u51, u52, u53, u54, u55, u56, u57, u58, u59, u60, u61, u62, u63, u64, u65, u66, u67, u68, u69, u70, u71, u72, u73, (.pointer (some ⟨r, 0, none⟩)), s75, s76, s77, s78, s79, s80, s81, s82, s83, s84, s85, s86, s87, s88, s89, s90, u91, u92, u93, u94, u95, u96, u97, u98, u99, u100, u101, u102, u103, u104, u105, u106, u107, u108, u109, u110, u111, u112, u113, u114, u115, u116, u117, u118, u119], []⟩

set_option maxRecDepth 100000 in
set_option maxHeartbeats 1000000 in
theorem del_loop {Q : Exit → Act → World → Prop} (u0 u1 u3 u4 u5 u6 u7 u8 u9 u10 u11 u12 u13 u14 u15 u16 u17 u18 u19 u20 u21 u22 u23 u24 u25 u26 u27 u28 u29 u30 u31 u32 u33 u34 u35 u36 u37 u38 u39 u40 u41 u42 u43 u44 u45 u46 u47 u48 u49 u50 u51 u52 u53 u54 u55 u56 u57 u58 u59 u60 u61 u62 u63 u64 u65 u66 u67 u68 u69 u70 u71 u72 u73 u75 u76 u77 u78 u79 u80 u81 u82 u83 u84 u85 u86 u87 u88 u89 u90 u91 u92 u93 u94 u95 u96 u97 u98 u99 u100 u101 u102 u103 u104 u105 u106 u107 u108 u109 u110 u111 u112 u113 u114 u115 u116 u117 u118 u119 : Value) (mb r n hv hb : Nat) (room : Int) (g0 : Int → Option Int) (w : World)
    (h0 : RelD mb r n room g0 w 0 w) (hv0 : w.cell? ⟨hv, 0, none⟩ = some (.pointer (some ⟨hb, 0, none⟩))) (c3 : w.cell? ⟨hb, 3, none⟩ = some (.int .i64 room)) (c6 : w.cell? ⟨hb, 6, none⟩ = some (.map (some mb))) (d1 : hv ≠ mb) (d2 : hv ≠ r) (d3 : hb ≠ mb) (d4 : hb ≠ r)
    (hQ : ∀ (s11 s12 s75 s76 s77 s78 s79 s80 s81 s82 s83 s84 s85 s86 s87 s88 s89 s90 : Value) (w' : World), RelDe mb r n room g0 w w' → Q (.exit 4) ⟨#[u0, u1, (.pointer (some ⟨hv, 0, none⟩)), u3, u4, u5, u6, u7, u8, u9, u10, s11, s12, u13, u14, u15, u16, u17, u18, u19, u20, u21, u22, u23, u24, u25, u26, u27, u28, u29, u30, u31, u32, u33, u34, u35, u36, u37, u38, u39, u40, u41, u42, u43, u44, u45, u46, u47, u48, u49, u50, u51, u52, u53, u54, u55, u56, u57, u58, u59, u60, u61, u62, u63, u64, u65, u66, u67, u68, u69, u70, u71, u72, u73, (.pointer (some ⟨r, 0, none⟩)), s75, s76, s77, s78, s79, s80, s81, s82, s83, s84, s85, s86, s87, s88, s89, s90, u91, u92, u93, u94, u95, u96, u97, u98, u99, u100, u101, u102, u103, u104, u105, u106, u107, u108, u109, u110, u111, u112, u113, u114, u115, u116, u117, u118, u119], []⟩ w') :
    Code.wp Try.prog (Cut.piece Try.f11 (Cut.loop 17)) Q ⟨#[u0, u1, (.pointer (some ⟨hv, 0, none⟩)), u3, u4, u5, u6, u7, u8, u9, u10, u11, u12, u13, u14, u15, u16, u17, u18, u19, u20, u21, u22, u23, u24, u25, u26, u27, u28, u29, u30, u31, u32, u33, u34, u35, u36, u37, u38, u39, u40, u41, u42, u43, u44, u45, u46, u47, u48, u49, u50, u51, u52, u53, u54, u55, u56, u57, u58, u59, u60, u61, u62, u63, u64, u65, u66, u67, u68, u69, u70, u71, u72, u73, (.pointer (some ⟨r, 0, none⟩)), u75, u76, u77, u78, u79, u80, u81, u82, u83, u84, u85, u86, u87, u88, u89, u90, u91, u92, u93, u94, u95, u96, u97, u98, u99, u100, u101, u102, u103, u104, u105, u106, u107, u108, u109, u110, u111, u112, u113, u114, u115, u116, u117, u118, u119], []⟩ w := by
  conv => arg 2; whnf
  refine wp_loop (InvD mb r n hv room g0 w u0 u1 u3 u4 u5 u6 u7 u8 u9 u10 u13 u14 u15 u16 u17 u18 u19 u20 u21 u22 u23 u24 u25 u26 u27 u28 u29 u30 u31 u32 u33 u34 u35 u36 u37 u38 u39 u40 u41 u42 u43 u44 u45 u46 u47 u48 u49 u50 u51 u52 u53 u54 u55 u56 u57 u58 u59 u60 u61 u62 u63 u64 u65 u66 u67 u68 u69 u70 u71 u72 u73 u91 u92 u93 u94 u95 u96 u97 u98 u99 u100 u101 u102 u103 u104 u105 u106 u107 u108 u109 u110 u111 u112 u113 u114 u115 u116 u117 u118 u119) (fun _ wr => wr.rangeLeft mb r) ?_ (fun a' wr hI => ?_)
  · exact ⟨u11, u12, u75, u76, u77, u78, u79, u80, u81, u82, u83, u84, u85, u86, u87, u88, u89, u90, h0, rfl⟩
  obtain ⟨s11, hI⟩ := hI
  obtain ⟨s12, hI⟩ := hI
  obtain ⟨s75, hI⟩ := hI
  obtain ⟨s76, hI⟩ := hI
  obtain ⟨s77, hI⟩ := hI
  obtain ⟨s78, hI⟩ := hI
  obtain ⟨s79, hI⟩ := hI
  obtain ⟨s80, hI⟩ := hI
  obtain ⟨s81, hI⟩ := hI
  obtain ⟨s82, hI⟩ := hI
  obtain ⟨s83, hI⟩ := hI
  obtain ⟨s84, hI⟩ := hI
  obtain ⟨s85, hI⟩ := hI
  obtain ⟨s86, hI⟩ := hI
  obtain ⟨s87, hI⟩ := hI
  obtain ⟨s88, hI⟩ := hI
  obtain ⟨s89, hI⟩ := hI
  obtain ⟨s90, hI⟩ := hI
  obtain ⟨⟨D, left, cnt, g, hrg, hR, hl, hnl, hT⟩, rfl⟩ := hI
  have vr : wr.cell? ⟨hv, 0, none⟩ = some (.pointer (some ⟨hb, 0, none⟩)) := (World.cell?_of_block (a := ⟨hv, 0, none⟩) (hT.block hv (World.block_lt_of_cell? w _ hv0) (fun h => h.elim d1 d2))).trans hv0
  have hbr := hT.block hb (World.block_lt_of_cell? w _ c3) (fun h => h.elim d3 d4)
  have c3r : wr.cell? ⟨hb, 3, none⟩ = some (.int .i64 room) := (World.cell?_of_block (a := ⟨hb, 3, none⟩) hbr).trans c3
  have c6r : wr.cell? ⟨hb, 6, none⟩ = some (.map (some mb)) := (World.cell?_of_block (a := ⟨hb, 6, none⟩) hbr).trans c6
  have hmu := hrg.left_eq
  clear hv0 c3 c6 h0
  go_wp2_with (at_next; refine wpList_next_ranges_ii _ rfl _ rfl 3 3 .i64 .i64 (int_keyed Try.underlying3) Try.underlying3 Try.underlying3 mb r n _ _ _ rfl hrg ?_ ?_)
  · intro _ hl0
    clear hmu vr hbr c3r c6r hl
    have hfin : RelDe mb r n room g0 w wr := ⟨D, hrg.owns, hR.congr (fun i => (hnl i (hl0 _)).symm), hT⟩
    clear hnl hl0
    go_wp2
    exact hfin
  · intro x c w1 cnt1 hwx hwc hlx hat hrg1 hlt hg1 hs1 hen
    have hgx : g x = some c := reads_at hR hat
    have hg0 : g0 x = some c := (hl x hlx).symm.trans hgx
    have hT1 : Turned (fun k => k = mb ∨ k = r) w w1 := hT.grown hg1 (fun k hk => Or.inl (Or.inr (Option.some.inj hk).symm))
    have vr1 : w1.cell? ⟨hv, 0, none⟩ = some (.pointer (some ⟨hb, 0, none⟩)) := (World.cell?_of_block (a := ⟨hv, 0, none⟩) (hg1.block hv (World.block_lt_of_cell? wr _ vr) (fun h => d2 (Option.some.inj h)))).trans vr
    have hbr1 := hg1.block hb (World.block_lt_of_cell? wr _ c3r) (fun h => d4 (Option.some.inj h))
    have c3r1 : w1.cell? ⟨hb, 3, none⟩ = some (.int .i64 room) := (World.cell?_of_block (a := ⟨hb, 3, none⟩) hbr1).trans c3r
    have c6r1 : w1.cell? ⟨hb, 6, none⟩ = some (.map (some mb)) := (World.cell?_of_block (a := ⟨hb, 6, none⟩) hbr1).trans c6r
    have hl1 : ∀ id, (left (.int .i64 id) && !(Lit.int .i64 id).sameKey (.int .i64 x)) = true → g id = g0 id := fun id h => hl id (by rw [Bool.and_eq_true] at h; exact h.1)
    have hne : ∀ id, id ≠ x → (left (.int .i64 id) && !(Lit.int .i64 id).sameKey (.int .i64 x)) = left (.int .i64 id) := fun id h => by
      rw [sameKey_int, decide_eq_false h]
      simp
    have hxx : (left (.int .i64 x) && !(Lit.int .i64 x).sameKey (.int .i64 x)) = false := by
      rw [sameKey_int]
      simp
    clear vr hbr c3r c6r hg1 hbr1 hwc hat hrg
    by_cases hcr : c < room
    · have hcd : decide (c < room) = true := by simpa using hcr
      have hab := Lib.hid (above_lt hcr)
      have A1 := Lib.hid hnl
      have A2 := Lib.hid hl
      have A3 := Lib.hid hl1
      have A4 := Lib.hid hne
      have A5 := Lib.hid hxx
      have A6 := Lib.hid hg0
      have A7 := Lib.hid hmu
      have A8 := Lib.hid hgx
      clear hnl hl hl1 hne hxx hg0 hmu hgx
      go_wp2_with (at_delete; refine wpList_delete_ranges _ rfl _ _ _ _ rfl 3 (int_keyed Try.underlying3) Try.underlying47 _ mb r n _ _ _ rfl hrg1 _ _ rfl (keyOf_int_mk Try.underlying3 hwx) ?_; intro w2 cnt2 hrg2 hle2 htu2)
      rw [Maps.strike_twice] at hrg2
      have hT2 : Turned (fun k => k = mb ∨ k = r) w w2 := hT1.grown htu2.grown (fun k hk => Or.inl (Or.inl (Option.some.inj hk).symm))
      have hfin : RelD mb r n room g0 w 0 w2 := ⟨_, _, cnt2, _, hrg2, reads_del hR x, fun id h => by
        have he : id ≠ x := by
          rintro rfl
          rw [A5.out] at h
          cases h
        rw [if_neg he]
        exact A3.out id h, fun id h => by
        by_cases he : id = x
        · rw [if_pos he, he, A6.out]
          exact hab.out.symm
        · rw [if_neg he]
          rw [A4.out id he] at h
          exact A1.out id h, hT2⟩
      refine ⟨⟨_, _, _, _, _, _, _, _, _, _, _, _, _, _, _, _, _, _, hfin, rfl⟩, ?_⟩
      rw [hrg2.left_eq, A7.out]
      omega
    · have hcd : decide (c < room) = false := by simpa using hcr
      have hab := above_ge hcr
      have hfin : RelD mb r n room g0 w 0 w1 := ⟨D, _, cnt1, g, hrg1, hR, hl1, fun id h => by
        by_cases he : id = x
        · subst he
          rw [hgx, hg0, hab]
        · rw [hne id he] at h
          exact hnl id h, hT1⟩
      have hm1 := hrg1.left_eq
      clear hnl hl hl1 hne hxx hg0 hgx hrg1 hR hT hT1
      go_wp2
      exact ⟨_, _, _, _, _, _, _, _, _, _, _, _, _, _, _, _, _, _, hfin, rfl⟩

end Go.Proofs.Ythbkklnahhdgcaa.ChL
