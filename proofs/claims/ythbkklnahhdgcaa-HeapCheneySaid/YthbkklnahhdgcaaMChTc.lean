/-
  rewindkeep's shape.
-/
import Derived.Test.YthbkklnahhdgcaaMChTb
namespace Go.Proofs.Ythbkklnahhdgcaa.ChTc
open Go Go.Proofs Go.RowKit Go.Maps Go.Proofs.Ythbkklnahhdgcaa.Lib Go.Proofs.Ythbkklnahhdgcaa.HeapR Go.Proofs.Ythbkklnahhdgcaa.HeapC Go.Proofs.Ythbkklnahhdgcaa.HeapD Go.Proofs.Ythbkklnahhdgcaa.ChA Go.Proofs.Ythbkklnahhdgcaa.ChT Go.Proofs.Ythbkklnahhdgcaa.ChTa Go.Proofs.Ythbkklnahhdgcaa.ChCa Go.Proofs.Ythbkklnahhdgcaa.ChCc Go.Proofs.Ythbkklnahhdgcaa.ChE Go.Proofs.Ythbkklnahhdgcaa.ChH Go.Proofs.Ythbkklnahhdgcaa.ChI Go.Proofs.Ythbkklnahhdgcaa.ChK Go.Proofs.Ythbkklnahhdgcaa.ChL Go.Proofs.Ythbkklnahhdgcaa.ChN Go.Proofs.Ythbkklnahhdgcaa.ChR Go.Proofs.Ythbkklnahhdgcaa.ChV Go.Proofs.Ythbkklnahhdgcaa.ChW Go.Proofs.Ythbkklnahhdgcaa.ChZ Go.Proofs.Ythbkklnahhdgcaa.ChTb

/-- What holds at each round. -/
def RelS (w0 : World) (sb f : Nat) (O : List Ob) (x : Ob) (outF seenF : List Int) (i : Nat) (out : List Int) (ov : Value) (wr : World) : Prop :=
  i ≤ x.fs.length ∧ ∃ seen, shpl (shp O f) (x.fs.drop i) out seen = some (outF, seenF) ∧ wr.ownsRow w0.heap.size 3 1 ov out.length (out.map (Value.int .i64)) ∧ Sh wr sb seen ∧ Turned (fun k => k = sb) w0 wr ∧ seen.length + unseen O seen ≤ big

def InvS (hb sb vb : Nat) (w0 : World) (f : Nat) (O : List Ob) (x : Ob) (outF seenF : List Int) (u1 u3 u5 u6 u7 u12 u13 u14 u15 u16 u17 u18 u19 u20 u21 u22 u23 u24 u25 u26 u27 u28 u29 u30 u31 u32 u33 u34 u35 u36 u37 u38 u39 u40 u41 u42 u43 u44 u45 u46 u47 u48 u71 : Value) (a : Act) (wr : World) : Prop :=
  ∃ (i : Nat) (out : List Int) (oo : Option Addr) (cc : Nat) (s10 s11 s49 s50 s51 s52 s53 s54 s55 s56 s57 s58 s59 s60 s61 s62 s63 s64 s65 s66 s67 s68 s69 s70 : Value), RelS w0 sb f O x outF seenF i out (.slice oo out.length cc) wr ∧ a = ⟨#[(.pointer (some ⟨hb, 0, none⟩)), u1, (.map (some sb)), u3, (.pointer (some ⟨vb, 0, none⟩)), u5, u6, u7, (.slice oo out.length cc), (.int .i64 (i : Int)), s10, s11, u12, u13, u14, u15, u16, u17, u18, u19, u20, u21, u22, u23, u24, u25, u26, u27, u28, u29, u30, u31, u32, u33, u34, u35, u36, u37, u38, u39, u40, u41, u42, u43, u44, u45, u46, u47, u48, s49, s50, s51, s52, s53, s54, s55, s56, s57, s58, s59, s60, s61, s62, s63, s64, s65, s66, s67, s68, s69, s70, u71], []⟩
def muS (n : Nat) (a : Act) (_ : World) : Nat := n - (intOf (a.tmps.getD 9 undef)).toNat

set_option maxRecDepth 100000 in
set_option maxHeartbeats 2000000 in
theorem shape_loop {Q : Exit → Act → World → Prop} (u1 u3 u5 u6 u7 u10 u11 u12 u13 u14 u15 u16 u17 u18 u19 u20 u21 u22 u23 u24 u25 u26 u27 u28 u29 u30 u31 u32 u33 u34 u35 u36 u37 u38 u39 u40 u41 u42 u43 u44 u45 u46 u47 u48 u49 u50 u51 u52 u53 u54 u55 u56 u57 u58 u59 u60 u61 u62 u63 u64 u65 u66 u67 u68 u69 u70 u71 : Value) {w0 w : World} {hb nb mb : Nat} {ov rv : Value} {B : Nat} {H : HS} {nu ol : List Ob} (sb vb f : Nat) (x : Ob) (o0 : Option Addr) (c0 : Nat) (out0 outF seenF : List Int)
    (hS : Says hb nb mb ov rv B H nu ol sb f) (h : HR w0 hb nb mb ov rv B H) (hi : HI H nu ol) (hx : x ∈ nu ++ ol) (hxa : x.addr + x.len ≤ big) (hsb : ¬ Owns hb nb mb ov rv sb) (hvb : vb ≠ sb) (q1 : w0.cell? ⟨vb, 1, none⟩ = some (.int .i64 (x.addr : Int)))
    (h0 : RelS w0 sb f (nu ++ ol) x outF seenF 0 out0 (.slice o0 out0.length c0) w) (hb1 : outF.length ≤ big) (_hsl : sb < w0.heap.size)
    (hQ : ∀ (oo : Option Addr) (cc : Nat) (s10 s11 s49 s50 s51 s52 s53 s54 s55 s56 s57 s58 s59 s60 s61 s62 s63 s64 s65 s66 s67 s68 s69 s70 : Value) (w' : World), RelS w0 sb f (nu ++ ol) x outF seenF x.fs.length outF (.slice oo outF.length cc) w' → Q (.exit 0) ⟨#[(.pointer (some ⟨hb, 0, none⟩)), u1, (.map (some sb)), u3, (.pointer (some ⟨vb, 0, none⟩)), u5, u6, u7, (.slice oo outF.length cc), (.int .i64 (x.fs.length : Int)), s10, s11, u12, u13, u14, u15, u16, u17, u18, u19, u20, u21, u22, u23, u24, u25, u26, u27, u28, u29, u30, u31, u32, u33, u34, u35, u36, u37, u38, u39, u40, u41, u42, u43, u44, u45, u46, u47, u48, s49, s50, s51, s52, s53, s54, s55, s56, s57, s58, s59, s60, s61, s62, s63, s64, s65, s66, s67, s68, s69, s70, u71], []⟩ w') :
    Code.wp Try.prog (Cut.piece Try.f10 (Cut.loop 9)) Q ⟨#[(.pointer (some ⟨hb, 0, none⟩)), u1, (.map (some sb)), u3, (.pointer (some ⟨vb, 0, none⟩)), u5, u6, u7, (.slice o0 out0.length c0), (.int .i64 (0 : Int)), u10, u11, u12, u13, u14, u15, u16, u17, u18, u19, u20, u21, u22, u23, u24, u25, u26, u27, u28, u29, u30, u31, u32, u33, u34, u35, u36, u37, u38, u39, u40, u41, u42, u43, u44, u45, u46, u47, u48, u49, u50, u51, u52, u53, u54, u55, u56, u57, u58, u59, u60, u61, u62, u63, u64, u65, u66, u67, u68, u69, u70, u71], []⟩ w := by
  conv => arg 2; whnf
  refine wp_loop (InvS hb sb vb w0 f (nu ++ ol) x outF seenF u1 u3 u5 u6 u7 u12 u13 u14 u15 u16 u17 u18 u19 u20 u21 u22 u23 u24 u25 u26 u27 u28 u29 u30 u31 u32 u33 u34 u35 u36 u37 u38 u39 u40 u41 u42 u43 u44 u45 u46 u47 u48 u71) (muS x.fs.length) ?_ (fun a' wr hI => ?_)
  · exact ⟨0, out0, o0, c0, u10, u11, u49, u50, u51, u52, u53, u54, u55, u56, u57, u58, u59, u60, u61, u62, u63, u64, u65, u66, u67, u68, u69, u70, h0, rfl⟩
  obtain ⟨i, hI⟩ := hI
  obtain ⟨out, hI⟩ := hI
  obtain ⟨oo, hI⟩ := hI
  obtain ⟨cc, hI⟩ := hI
  obtain ⟨s10, hI⟩ := hI
  obtain ⟨s11, hI⟩ := hI
  obtain ⟨s49, hI⟩ := hI
  obtain ⟨s50, hI⟩ := hI
  obtain ⟨s51, hI⟩ := hI
  obtain ⟨s52, hI⟩ := hI
  obtain ⟨s53, hI⟩ := hI
  obtain ⟨s54, hI⟩ := hI
  obtain ⟨s55, hI⟩ := hI
  obtain ⟨s56, hI⟩ := hI
  obtain ⟨s57, hI⟩ := hI
  obtain ⟨s58, hI⟩ := hI
  obtain ⟨s59, hI⟩ := hI
  obtain ⟨s60, hI⟩ := hI
  obtain ⟨s61, hI⟩ := hI
  obtain ⟨s62, hI⟩ := hI
  obtain ⟨s63, hI⟩ := hI
  obtain ⟨s64, hI⟩ := hI
  obtain ⟨s65, hI⟩ := hI
  obtain ⟨s66, hI⟩ := hI
  obtain ⟨s67, hI⟩ := hI
  obtain ⟨s68, hI⟩ := hI
  obtain ⟨s69, hI⟩ := hI
  obtain ⟨s70, hI⟩ := hI
  obtain ⟨⟨hi', seen, hsh, hrow, hSh, hT, hlen⟩, rfl⟩ := hI
  have hvl : vb < w0.heap.size := World.block_lt_of_cell? w0 _ q1
  have hr : HR wr hb nb mb ov rv B H := h.turned hT (fun k hk e => hsb (e ▸ hk))
  have qr : wr.cell? ⟨vb, 1, none⟩ = some (.int .i64 (x.addr : Int)) := (World.cell?_of_block (a := ⟨vb, 1, none⟩) (hT.block vb hvl hvb)).trans q1
  have hbig := big_lt
  have hxl : x.len = 1 + x.fs.length := rfl
  have hsize : Calls Try.prog 8 #[.pointer (some ⟨hb, 0, none⟩), .int .i64 (x.addr : Int)] wr fun e w' => e = .returned (.int .i64 (x.fs.length : Int)) ∧ Below wr.heap.size wr w' := Size_yes hr (x.addr : Int) (by omega) (x.head 0) (head_obj hr hi hx)
  have hzr := hT.size
  by_cases hil : i < x.fs.length
  · have hil' : decide ((i : Int) < (x.fs.length : Int)) = true := by simpa using hil
    have hil2 : (i : Int) < (x.fs.length : Int) := by omega
    have hi0 : (0 : Int) ≤ (i : Int) := by omega
    obtain ⟨v, hv⟩ : ∃ v, x.fs[i]? = some v := ⟨_, List.getElem?_eq_getElem hil⟩
    have hvm := List.mem_of_getElem? hv
    have hdrop : x.fs.drop i = v :: x.fs.drop (i + 1) := by
      rw [List.drop_eq_getElem_cons hil]
      have h1 := (List.getElem?_eq_some_iff.1 hv).2
      rw [h1]
    rw [hdrop] at hsh
    unfold shpl at hsh
    cases hg : shp (nu ++ ol) f v seen with
    | none =>
      rw [hg] at hsh
      cases hsh
    | some pr =>
      obtain ⟨xs, s1⟩ := pr
      rw [hg] at hsh
      have hmono := shpl_mono _ _ _ _ _ hsh
      rw [List.length_append] at hmono
      have hxne := shp_ne hg
      have hcell : (x.cells 0)[1 + i]? = some v.cell := by
        rw [show 1 + i = i + 1 by omega]
        show (x.fs.map Vl.cell)[i]? = _
        rw [List.getElem?_map, hv]
        rfl
      have hget := fun {w1 : World} (h1 : HR w1 hb nb mb ov rv B H) => get_ok h1 (x.addr : Int) (i : Int) (by omega) (by omega) (x.head 0) v.cell (head_obj h1 hi hx) hi0 hil2 (by
        have hraw := raw_obj h1 hi hx hcell
        rw [show (x.addr : Int) + 1 + (i : Int) = (x.addr : Int) + ((1 + i : Nat) : Int) by omega]
        exact hraw)
      have hget' : ∀ {w1 : World} (h1 : HR w1 hb nb mb ov rv B H), Calls Try.prog 15 #[.pointer (some ⟨hb, 0, none⟩), .int .i64 (x.addr : Int), .int .i64 (i : Int)] w1 fun e w' => e = .returned (.tuple #[.agg #[.int .i64 v.k, .int .i64 v.n, .string v.s], .nilIface]) ∧ Below w1.heap.size w1 w' := fun h1 => hget h1
      have hval : v.k = 4 → ∃ y ∈ nu ++ ol, v.n = (y.addr : Int) := fun hk => hi.refs x hx v hvm hk
      have b3 : i + 1 ≤ big := by omega
      have bm : out.length + xs.length ≤ maxLen := max_of _ (by omega)
      have bx : xs.length ≤ big := by omega
      have bb : (out.length + xs.length) * 8 ≤ 140737488355328 := by unfold big at hb1; omega
      obtain ⟨i0, hi1, hq0, hq1, hq2⟩ := info_parts infoInt
      clear hget hcell hxl hbig hmono hdrop
      have A1 := Lib.hid hsh
      have A2 := Lib.hid hg
      have A3 := Lib.hid hval
      clear hsh hg hval
      go_wp2_with fail
      refine hsize.mono ?_
      rintro e w2 ⟨rfl, hb2⟩
      clear hsize
      have hr2 := hr.below hb2
      have q2 : w2.cell? ⟨vb, 1, none⟩ = some (.int .i64 (x.addr : Int)) := (hb2.cell (p := ⟨vb, 1, none⟩) (by show vb < _; omega)).trans qr
      go_wp2_with fail
      refine (hget' hr2).mono ?_
      rintro e w3 ⟨rfl, hb3⟩
      go_wp2_with fail
      have hz2 := hb2.size
      have hz3 := hb3.size
      have hb4 := (Below.refl w3.heap.size w3).alloc (Nat.le_refl _) (.cells #[.int .i64 v.k, .int .i64 v.n, .string v.s] 34 (0, 0))
      have hbr4 : Below wr.heap.size wr (w3.alloc (.cells #[.int .i64 v.k, .int .i64 v.n, .string v.s] 34 (0, 0))) := (hb2.trans (hb3.mono hz2)).trans (hb4.mono (by omega))
      have hr4 := hr.below hbr4
      have hSh4 := hSh.same (hbr4.block sb hSh.lt)
      refine (hS v seen xs s1 _ hr4 hSh4 hlen A2.out bx A3.out).mono ?_
      rintro e w5 ⟨ox, cx, rfl, hrowx, hSh5, hT5, hlen5⟩
      obtain ⟨gx, cx', hgx⟩ := row_slice hrowx hxne
      cases hgx
      have hosb : ∀ k, (Value.slice oo out.length cc).ownBlock = some k → k ≠ sb := fun k hk e => by
        obtain ⟨D, m1, _⟩ := hSh
        exact own_ne hrow (show wr.heap[sb]? = _ from m1.choose_spec.choose_spec.1) (by intro cur e2; cases e2) (hk.trans (congrArg some e))
      have hT05 : Turned (fun k => k = sb) w0 w5 := (hT.trans (Turned.of_below _ hbr4)).trans hT5
      have hrow5 : w5.ownsRow w0.heap.size 3 1 (.slice oo out.length cc) out.length (out.map (Value.int .i64)) := ownsRow_same hrow (fun k hk => (hT5.block k (by have := (own_lt hrow hk).2; have := hbr4.size; omega) (hosb k hk)).trans (hbr4.block k (own_lt hrow hk).2))
      have hw5s := hT05.size
      have c3 : IntKind.i64.wrap ((i : Int) + 1) = (i : Int) + 1 := wrapk_two i 1 b3
      have c6 : wrap64 ((i : Int) + 1) = (i : Int) + 1 := wrap_two i 1 b3
      have A4 := Lib.hid hlen5
      clear hlen5
      go_wp2_with (at_builtin; go_loud (refine wpList_append_own _ rfl _ _ 22 rfl w0.heap.size 3 i0 (.int .i64 0) 1 8 Try.underlying22 hi1 hq0 hq1 hq2 rfl (by decide) (.slice oo out.length cc) out.length (out.map (Value.int .i64)) rfl hrow5 ⟨gx, 0, none⟩ xs.length cx (xs.map (Value.int .i64)) rfl ?c0 ?c1 ?c2 ?c3 ?c4 ?c5 ?grow))
      case c0 => simp
      case c1 =>
        intro j u hj
        have hjl : j < xs.length := by
          have := (List.getElem?_eq_some_iff.1 hj).1
          rwa [List.length_map] at this
        rw [show (⟨gx, 0, none⟩ : Addr).add j = ⟨gx, j, none⟩ by simp only [Addr.add, Nat.zero_add]; split <;> simp_all]
        exact (hrowx.cellAt j (by omega)).trans hj
      case c2 =>
        intro u hu
        obtain ⟨q, _, rfl⟩ := List.mem_map.1 hu
        rfl
      case c3 => exact bm
      case c4 => exact bb
      case c5 => exact hw5s
      case grow =>
        intro v' w6 hown6 hgrow _
        rw [← List.length_append, ← List.map_append] at hown6
        obtain ⟨g, cap, rfl⟩ := row_slice hown6 (by rw [List.length_append]; omega)
        have hfin : RelS w0 sb f (nu ++ ol) x outF seenF (i + 1) (out ++ xs) (.slice (some ⟨g, 0, none⟩) (out ++ xs).length cap) w6 := ⟨Nat.succ_le_of_lt hil, s1, A1.out, hown6, hSh5.same (hgrow.block sb hSh5.lt (fun e => hosb sb e.symm rfl)), hT05.grown hgrow (fun k hk => .inr (own_lt hrow hk).1), A4.out⟩
        have A5 := Lib.hid hfin
        clear hfin hown6 hgrow hrow5 hT05 hosb hrowx hSh5 hT5 hrow hSh hT
        go_wp2
        clear c3 c6
        refine ⟨⟨i + 1, out ++ xs, some ⟨g, 0, none⟩, cap, _, _, _, _, _, _, _, _, _, _, _, _, _, _, _, _, _, _, _, _, _, _, _, _, A5.out, rfl⟩, ?_⟩
        simp [muS, intOf]
        omega
  · have hie : i = x.fs.length := by omega
    subst hie
    have hil' : decide ((x.fs.length : Int) < (x.fs.length : Int)) = false := by simp
    rw [List.drop_length] at hsh
    simp only [shpl, Option.some.injEq, Prod.mk.injEq] at hsh
    obtain ⟨rfl, rfl⟩ := hsh
    go_wp2_with fail
    refine hsize.mono ?_
    rintro e w2 ⟨rfl, hb2⟩
    have hfin : RelS w0 sb f (nu ++ ol) x out seen x.fs.length out (.slice oo out.length cc) w2 := ⟨Nat.le_refl _, seen, by rw [List.drop_length]; rfl, ownsRow_same hrow (fun k hk => hb2.block k (own_lt hrow hk).2), hSh.same (hb2.block sb hSh.lt), hT.trans (Turned.of_below _ hb2), hlen⟩
    have A1 := Lib.hid hfin
    clear hfin hsize
    go_wp2
    exact A1.out

end Go.Proofs.Ythbkklnahhdgcaa.ChTc
