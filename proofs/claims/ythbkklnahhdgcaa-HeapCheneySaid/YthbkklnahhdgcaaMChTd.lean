/-
  rewindkeep's shape, whole.
-/
import Derived.Test.YthbkklnahhdgcaaMChTc
namespace Go.Proofs.Ythbkklnahhdgcaa.ChTd
open Go Go.Proofs Go.RowKit Go.Maps Go.Proofs.Ythbkklnahhdgcaa.Lib Go.Proofs.Ythbkklnahhdgcaa.HeapR Go.Proofs.Ythbkklnahhdgcaa.HeapC Go.Proofs.Ythbkklnahhdgcaa.HeapD Go.Proofs.Ythbkklnahhdgcaa.ChA Go.Proofs.Ythbkklnahhdgcaa.ChT Go.Proofs.Ythbkklnahhdgcaa.ChTa Go.Proofs.Ythbkklnahhdgcaa.ChCa Go.Proofs.Ythbkklnahhdgcaa.ChCc Go.Proofs.Ythbkklnahhdgcaa.ChE Go.Proofs.Ythbkklnahhdgcaa.ChH Go.Proofs.Ythbkklnahhdgcaa.ChI Go.Proofs.Ythbkklnahhdgcaa.ChK Go.Proofs.Ythbkklnahhdgcaa.ChL Go.Proofs.Ythbkklnahhdgcaa.ChN Go.Proofs.Ythbkklnahhdgcaa.ChR Go.Proofs.Ythbkklnahhdgcaa.ChV Go.Proofs.Ythbkklnahhdgcaa.ChW Go.Proofs.Ythbkklnahhdgcaa.ChZ Go.Proofs.Ythbkklnahhdgcaa.ChTb Go.Proofs.Ythbkklnahhdgcaa.ChTc

theorem row_low {w : World} {base base' e size : Nat} {v : Value} {n : Nat} {xs : List Value} (h : w.ownsRow base e size v n xs) (hle : base' ≤ base) : w.ownsRow base' e size v n xs :=
  ⟨h.1, h.2.imp id fun ⟨g, cap, cur, q, hb, r⟩ => ⟨g, cap, cur, q, Nat.le_trans hle hb, r⟩⟩

set_option maxRecDepth 100000 in
set_option maxHeartbeats 1000000 in
theorem shape_plain (hv sv : Value) (k n : Int) (s : ByteArray) (w : World) (hk : k ≠ 4) :
    Calls Try.prog 10 #[hv, .agg #[.int .i64 k, .int .i64 n, .string s], sv] w fun e w' => ∃ o c, e = .returned (.slice o 3 c) ∧ w'.ownsRow w.heap.size 3 1 (.slice o 3 c) 3 ([k, n, (s.size : Int)].map (Value.int .i64)) ∧ Below w.heap.size w w' := by
  have hkd : (k == 4) = false := by simpa using hk
  have hb1 := (Below.refl w.heap.size w).alloc (Nat.le_refl _) (.cells #[.int .i64 k, .int .i64 n, .string s] 34 (0, 0))
  have hb2 := hb1.alloc (Nat.le_trans (Nat.le_refl _) hb1.size) (.cells #[.int .i64 k, .int .i64 n, .int .i64 (s.size : Int)] 3 (0, 0))
  have hsz := hb1.size
  have hrow := World.ownsRow_lit (base := w.heap.size) (e := 3) (size := 1) (w.alloc (.cells #[.int .i64 k, .int .i64 n, .string s] 34 (0, 0))) #[.int .i64 k, .int .i64 n, .int .i64 (s.size : Int)] 3 hsz (by decide) rfl
  rw [show (w.alloc (.cells #[.int .i64 k, .int .i64 n, .string s] 34 (0, 0))).heap.size = w.heap.size + 1 by simp] at hrow
  clear hk
  go_enter Try.func10, Try.ntmps10
  go_wp2
  go_ret
  exact ⟨_, _, rfl, hrow, hb2⟩

set_option maxRecDepth 100000 in
set_option maxHeartbeats 1000000 in
theorem shape_in {w : World} {hb nb mb : Nat} {ov rv : Value} {B : Nat} {H : HS} {nu ol : List Ob} (sb : Nat) (x : Ob) (s : ByteArray) (seen : List Int) (h : HR w hb nb mb ov rv B H) (hi : HI H nu ol) (hx : x ∈ nu ++ ol) (hxa : x.addr ≤ big) (hid : 0 ≤ x.id ∧ x.id ≤ (big : Int)) (hS : Sh w sb seen) (hin : x.id ∈ seen) :
    Calls Try.prog 10 #[.pointer (some ⟨hb, 0, none⟩), .agg #[.int .i64 4, .int .i64 (x.addr : Int), .string s], .map (some sb)] w fun e w' => ∃ o c, e = .returned (.slice o 1 c) ∧ w'.ownsRow w.heap.size 3 1 (.slice o 1 c) 1 ([-x.id].map (Value.int .i64)) ∧ Below w.heap.size w w' := by
  have hbig := big_lt
  have hb1 := (Below.refl w.heap.size w).alloc (Nat.le_refl _) (.cells #[.int .i64 4, .int .i64 (x.addr : Int), .string s] 34 (0, 0))
  have hcall := Id_yes (h.below hb1) (x.addr : Int) (by omega) (x.head 0) (head_obj (h.below hb1) hi hx)
  have hcall' : Calls Try.prog 16 #[.pointer (some ⟨hb, 0, none⟩), .int .i64 (x.addr : Int)] (w.alloc (.cells #[.int .i64 4, .int .i64 (x.addr : Int), .string s] 34 (0, 0))) fun e w' => e = .returned (.int .i64 x.id) ∧ Below (w.alloc (.cells #[.int .i64 4, .int .i64 (x.addr : Int), .string s] 34 (0, 0))).heap.size (w.alloc (.cells #[.int .i64 4, .int .i64 (x.addr : Int), .string s] 34 (0, 0))) w' := hcall
  have hS1 := hS.same (hb1.block sb hS.lt)
  have c1 : IntKind.i64.wrap (-x.id) = -x.id := IntWalk.i64_in _ (by unfold big at hid; omega)
  have hwf : (Lit.int .i64 x.id).wf = true := lit_wf _ (by omega) (by unfold big at hid; omega)
  have hz1 := hb1.size
  clear hcall hbig
  go_enter Try.func10, Try.ntmps10
  go_wp2_with fail
  refine hcall'.mono ?_
  rintro e w2 ⟨rfl, hb2⟩
  clear hcall'
  obtain ⟨D, m1, m2⟩ := hS1.same (hb2.block sb hS1.lt)
  have hl := look_bool m1 m2 x.id hwf
  rw [decide_eq_true hin] at hl
  have hb3 := hb1.trans (hb2.mono hz1)
  have hb4 := hb3.alloc hb3.size (.cells #[.int .i64 (-x.id)] 3 (0, 0))
  have hsz := hb3.size
  clear m1 m2 hS hS1 hin hid
  go_wp2
  go_ret
  exact ⟨_, _, rfl, World.ownsRow_lit (size := 1) w2 _ 1 hsz (by decide) rfl, hb4⟩

set_option maxRecDepth 100000 in
set_option maxHeartbeats 2000000 in
theorem shape_new {w : World} {hb nb mb : Nat} {ov rv : Value} {B : Nat} {H : HS} {nu ol : List Ob} (sb f : Nat) (x : Ob) (s : ByteArray) (seen outF seenF : List Int) (h : HR w hb nb mb ov rv B H) (hi : HI H nu ol) (hx : x ∈ nu ++ ol) (hxa : x.addr + x.len ≤ big) (hid : 0 ≤ x.id ∧ x.id ≤ (big : Int)) (hS : Sh w sb seen) (hin : x.id ∉ seen) (hsb : ¬ Owns hb nb mb ov rv sb)
    (hsay : Says hb nb mb ov rv B H nu ol sb f) (hlen : seen.length + unseen (nu ++ ol) seen ≤ big) (hsh : shpl (shp (nu ++ ol) f) x.fs [x.id, x.kind, x.tag, (x.fs.length : Int)] (seen ++ [x.id]) = some (outF, seenF)) (hout : outF.length ≤ big) :
    Calls Try.prog 10 #[.pointer (some ⟨hb, 0, none⟩), .agg #[.int .i64 4, .int .i64 (x.addr : Int), .string s], .map (some sb)] w fun e w' => ∃ o c, e = .returned (.slice o outF.length c) ∧ w'.ownsRow w.heap.size 3 1 (.slice o outF.length c) outF.length (outF.map (Value.int .i64)) ∧ Sh w' sb seenF ∧ Turned (fun k => k = sb) w w' ∧ seenF.length + unseen (nu ++ ol) seenF ≤ big := by
  have hbig := big_lt
  have hlt := unseen_lt hx hin
  have hb1 := (Below.refl w.heap.size w).alloc (Nat.le_refl _) (.cells #[.int .i64 4, .int .i64 (x.addr : Int), .string s] 34 (0, 0))
  have hcall' : Calls Try.prog 16 #[.pointer (some ⟨hb, 0, none⟩), .int .i64 (x.addr : Int)] (w.alloc (.cells #[.int .i64 4, .int .i64 (x.addr : Int), .string s] 34 (0, 0))) fun e w' => e = .returned (.int .i64 x.id) ∧ Below (w.alloc (.cells #[.int .i64 4, .int .i64 (x.addr : Int), .string s] 34 (0, 0))).heap.size (w.alloc (.cells #[.int .i64 4, .int .i64 (x.addr : Int), .string s] 34 (0, 0))) w' := Id_yes (h.below hb1) (x.addr : Int) (by omega) (x.head 0) (head_obj (h.below hb1) hi hx)
  have hS1 := hS.same (hb1.block sb hS.lt)
  have hwf : (Lit.int .i64 x.id).wf = true := lit_wf _ (by omega) (by unfold big at hid; omega)
  have q0 : (w.alloc (.cells #[.int .i64 4, .int .i64 (x.addr : Int), .string s] 34 (0, 0))).heap[w.heap.size]? = some (.cells #[.int .i64 4, .int .i64 (x.addr : Int), .string s] 34 (0, 0)) := heap_alloc_last w _
  have hz1 := hb1.size
  have hsbl := hS.lt
  have hSm : seen.length < maxLen := lt_max _ (by omega)
  have hlen2 : (seen ++ [x.id]).length + unseen (nu ++ ol) (seen ++ [x.id]) ≤ big := by
    rw [List.length_append]
    simp only [List.length_cons, List.length_nil]
    omega
  have A1 := Lib.hid hsh
  have A2 := Lib.hid hlen2
  have A3 := Lib.hid hlen
  have A4 := Lib.hid hlt
  have A5 := Lib.hid hout
  clear hsh hlen2 hlen hlt hbig hout
  go_enter Try.func10, Try.ntmps10
  go_wp2_with fail
  refine hcall'.mono ?_
  rintro e w2 ⟨rfl, hb2⟩
  clear hcall'
  have hS2 := hS1.same (hb2.block sb hS1.lt)
  obtain ⟨D, m1, m2⟩ := hS2
  have hl := look_bool m1 m2 x.id hwf
  rw [decide_eq_false hin] at hl
  have hb3 := hb1.trans (hb2.mono hz1)
  have hz3 := hb3.size
  have q2 : w2.heap[w.heap.size]? = some (.cells #[.int .i64 4, .int .i64 (x.addr : Int), .string s] 34 (0, 0)) := (hb2.block w.heap.size (lt_of_block q0)).trans q0
  clear hS1 q0
  go_wp2_with (at_mapUpdate; go_loud (refine wpList_mapUpdate_own _ rfl _ _ _ 37 rfl 3 4 (int_keyed Try.underlying3) Try.underlying37 _ sb seen.length D rfl m1 hSm _ _ (.int .i64 x.id) rfl rfl (keyOf_int_mk Try.underlying3 hwf) _ [] (plainElem_bool Try.underlying4 true) ?grow))
  intro w3 hm3 hg3
  have hSn : Sh w3 sb (seen ++ [x.id]) := ⟨_, (by rw [List.length_append]; exact hm3), (by
    have h2 := readsB_put m2 x.id
    refine ⟨h2.map, fun a => ?_⟩
    rw [h2.at_ a]
    simp [or_comm])⟩
  have hT3 : Turned (fun k => k = sb) w w3 := (Turned.of_below _ hb3).grown hg3 (fun k hk => .inl (Option.some.inj hk).symm)
  have q3 : w3.heap[w.heap.size]? = some (.cells #[.int .i64 4, .int .i64 (x.addr : Int), .string s] 34 (0, 0)) := (hg3.block w.heap.size (lt_of_block q2) (fun e => by have e2 := Option.some.inj e; omega)).trans q2
  have hr3 : HR w3 hb nb mb ov rv B H := h.turned hT3 (fun k hk e => hsb (e ▸ hk))
  have qc3 : w3.cell? ⟨w.heap.size, 1, none⟩ = some (.int .i64 (x.addr : Int)) := cell_of_block q3 rfl
  have hT3h := Lib.hid hT3
  have hSnh := Lib.hid hSn
  have hvl := lt_of_block q3
  clear hm3 hg3 m1 m2 hl hT3 hSn q2 hin
  go_wp2_with fail
  refine shape_head _ _ _ _ _ _ _ _ _ _ _ _ _ _ _ _ _ _ _ _ _ _ _ _ _ _ _ _ _ _ _ _ _ _ _ _ _ _ _ _ _ _ _ _ _ _ _ _ _ _ _ _ _ _ _ _ _ _ _ _ _ _ _ _ _ _ _ _ _ w.heap.size x hr3 hi hx (by have h1 : x.len = 1 + x.fs.length := rfl; omega) qc3 ?_
  intro s35 s36 s37 s38 s39 s40 s41 s42 s43 s44 s45 s46 s47 s48 o4 c4 w4 hrow4 hb4
  go_wp2_with fail
  have h0 : RelS w3 sb f (nu ++ ol) x outF seenF 0 [x.id, x.kind, x.tag, (x.fs.length : Int)] (.slice o4 4 c4) w4 := ⟨Nat.zero_le _, seen ++ [x.id], A1.out, hrow4, hSnh.out.same (hb4.block sb hSnh.out.lt), Turned.of_below _ hb4, A2.out⟩
  refine shape_loop _ _ _ _ _ _ _ _ _ _ _ _ _ _ _ _ _ _ _ _ _ _ _ _ _ _ _ _ _ _ _ _ _ _ _ _ _ _ _ _ _ _ _ _ _ _ _ _ _ _ _ _ _ _ _ _ _ _ _ _ _ _ _ _ _ _ _ sb w.heap.size f x o4 c4 [x.id, x.kind, x.tag, (x.fs.length : Int)] outF seenF hsay hr3 hi hx hxa hsb (fun e => by omega) qc3 h0 A5.out hSnh.out.lt ?_
  intro oo cc z0 z1 z2 z3 z4 z5 z6 z7 z8 z9 z10 z11 z12 z13 z14 z15 z16 z17 z18 z19 z20 z21 z22 z23 w5 hR
  have A6 := Lib.hid hR
  clear hR h0 hrow4 hb4
  go_wp2
  go_ret
  obtain ⟨_, sn, e1, r1, r2, r3, r4⟩ := A6.out
  rw [List.drop_length] at e1
  simp only [shpl, Option.some.injEq, Prod.mk.injEq, true_and] at e1
  subst e1
  exact ⟨oo, cc, rfl, row_low r1 hT3h.out.size, r2, hT3h.out.trans r3, r4⟩

theorem shape_any {hb nb mb : Nat} {ov rv : Value} {B : Nat} {H : HS} {nu ol : List Ob} (sb : Nat) (hi : HI H nu ol) (hsz : ∀ x ∈ nu ++ ol, x.addr + x.len ≤ big) (hnx : H.next ≤ big) (hsb : ¬ Owns hb nb mb ov rv sb) : ∀ f, Says hb nb mb ov rv B H nu ol sb f
  | 0 => by
    intro v seen out seen' w _ _ _ hsh
    simp [shp] at hsh
  | f + 1 => by
    intro v seen out seen' w h hSh hlen hsh hol hval
    have hS : Says hb nb mb ov rv B H nu ol sb f := shape_any sb hi hsz hnx hsb f
    obtain ⟨k, n, s⟩ := v
    unfold shp at hsh
    by_cases hk : k = 4
    · subst hk
      obtain ⟨x, hx, hn⟩ := hval rfl
      have hn' : n = (x.addr : Int) := hn
      subst hn'
      rw [if_neg (by simp)] at hsh
      simp only [look_of_mem hi.apart hx] at hsh
      have hid := hi.ids x hx
      have hxa := hsz x hx
      have hxl : x.len = 1 + x.fs.length := rfl
      have hid2 : 0 ≤ x.id ∧ x.id ≤ (big : Int) := ⟨hid.1, by omega⟩
      by_cases hin : x.id ∈ seen
      · rw [if_pos hin] at hsh
        simp only [Option.some.injEq, Prod.mk.injEq] at hsh
        obtain ⟨rfl, rfl⟩ := hsh
        refine (shape_in sb x s seen h hi hx (by omega) hid2 hSh hin).mono ?_
        rintro e w' ⟨o, c, rfl, hr, hb⟩
        exact ⟨o, c, rfl, hr, hSh.same (hb.block sb hSh.lt), Turned.of_below _ hb, hlen⟩
      · rw [if_neg hin] at hsh
        exact shape_new sb f x s seen out seen' h hi hx hxa hid2 hSh hin hsb hS hlen hsh hol
    · rw [if_pos (by simpa using hk)] at hsh
      simp only [Option.some.injEq, Prod.mk.injEq] at hsh
      obtain ⟨rfl, rfl⟩ := hsh
      refine (shape_plain _ _ k n s w hk).mono ?_
      rintro e w' ⟨o, c, rfl, hr, hb⟩
      exact ⟨o, c, rfl, hr, hSh.same (hb.block sb hSh.lt), Turned.of_below _ hb, hlen⟩

end Go.Proofs.Ythbkklnahhdgcaa.ChTd
