/-
  The walk of rewindlaw.CodeDecodes: at any bytes that lie in memory it answers true, and nothing that was there has turned.
-/
import Derived.Test.YthbkklnahhdgcaaDoorDDecJ
import Derived.Test.YthbkklnahhdgcaaDoorDCodeJ
import Derived.Test.YthbkklnahhdgcaaDoorDCodeM
import Derived.Test.YthbkklnahhdgcaaDoorDEncE
namespace Go.Proofs.YthbkklnahhdgcaaDoor.DecK
open Go Go.Proofs Go.RowKit Lib CodeR CodeA CodeB CodeD CodeP CodeQ CodeS CodeK CodeL CodeM CodeI CodeJ EncA EncB DecA DecB DecC DecD DecG DecI DecJ DecP CodeO ErrC ErrD

theorem verdict_range {m : Im} {e p : Int} (h : ImVerdict m e p) (he : e ≠ 0) : e = 2 ∨ e = 3 ∨ e = 4 := by
  cases h1 : limImB m
  · exact Or.inr (Or.inr (h.lim h1).1)
  · by_cases h2 : ∃ i c, m.classes[i]? = some c ∧ classBad m i c = true
    · exact Or.inl (h.cls h1 h2).1
    · have h2' : ∀ i c, m.classes[i]? = some c → classBad m i c = false := by
        intro i c hc
        cases hb : classBad m i c
        · rfl
        · exact absurd ⟨i, c, hc, hb⟩ h2
      rcases h.fns h1 h2' with ⟨h3, _⟩ | ⟨i, f, _, _, _, hv, _⟩
      · exact absurd h3 he
      · cases k1 : limB f
        · exact Or.inr (Or.inr (hv.lim k1))
        · cases k2 : f.code.all (rightB m f)
          · exact Or.inl (hv.right k1 k2)
          · cases k3 : (f.hs.all (handB f) && f.vars.all (varB f))
            · exact Or.inl (hv.hand k1 k2 k3)
            · rcases hv.fit k1 k2 k3 with ⟨h4, _⟩ | ⟨h4, _⟩
              · exact absurd h4 he
              · exact Or.inr (Or.inl h4)
theorem fewIm_of {m : Im} {k : Nat} {p : Int} (hv : ImVerdict m 0 p) (hk : k ≤ 6000) (hf : ∀ f ∈ m.funcs, f.code.length + f.hs.length + f.vars.length ≤ k) (hc : ∀ x ∈ m.classes, x.fields.length + x.names.length + x.methods.length ≤ k) : FewIm m := by
  have h1 : limImB m = true := by
    cases h : limImB m with
    | true => rfl
    | false => exact absurd (hv.lim h).1 (by decide)
  unfold limImB within at h1
  simp only [Bool.and_eq_true, decide_eq_true_eq] at h1
  refine ⟨by omega, by omega, by omega, fun f h => ?_, fun c h => ?_⟩
  · have := hf f h; unfold fSize; omega
  · have := hc c h; unfold cSize; omega
theorem convAll (w : World) (oa : Option Addr) (L : List UInt8) (c : Nat) (hrow : ∀ (k : Nat) (x : UInt8), L[k]? = some x → ∃ b o, oa = some ⟨b, o, none⟩ ∧ w.cell? ⟨b, o + k, none⟩ = some (bv x)) :
    (convert 64 9 (.slice oa L.length c)).run Tryd.prog w = .ok (.string (sub L 0 L.length)) w := by
  have h := conv_sub w oa L 0 L.length c (by omega) hrow
  have e : oa.map (fun x => x.add 0) = oa := by cases oa <;> rfl
  rw [e] at h
  exact h
theorem rows_below {w w' : World} {oa : Option Addr} {L : List UInt8} {B : Nat} (hrow : ∀ (k : Nat) (x : UInt8), L[k]? = some x → ∃ b o, oa = some ⟨b, o, none⟩ ∧ w.cell? ⟨b, o + k, none⟩ = some (bv x)) (hb : Below B w w') (hB : w.heap.size ≤ B) : ∀ (k : Nat) (x : UInt8), L[k]? = some x → ∃ b o, oa = some ⟨b, o, none⟩ ∧ w'.cell? ⟨b, o + k, none⟩ = some (bv x) := fun k x hx => by
  obtain ⟨b, o, h1, h2⟩ := hrow k x hx
  exact ⟨b, o, h1, (hb.cell (p := ⟨b, o + k, none⟩) (Nat.lt_of_lt_of_le (World.block_lt_of_cell? w _ h2) hB)).trans h2⟩
/-- What bu_rows gives, as rows. -/
theorem bu_rows2 {w : World} {B : Nat} {v : Value} {l : List UInt8} (h : Bu w B v l) : ∃ oa c, v = .slice oa l.length c ∧ l.length ≤ c ∧ ∀ (k : Nat) (x : UInt8), l[k]? = some x → ∃ b o, oa = some ⟨b, o, none⟩ ∧ w.cell? ⟨b, o + k, none⟩ = some (bv x) := by
  rcases h.2 with ⟨rfl, h0⟩ | ⟨g, cap, cur, rfl, _, h4, h5, h6, h7, h8⟩
  · have h1 : l = [] := List.eq_nil_of_length_eq_zero h0
    subst h1
    exact ⟨none, 0, rfl, Nat.le_refl _, fun k x hx => by simp at hx⟩
  · refine ⟨_, _, rfl, by first | omega | (simp at *; omega), fun k x hx => ?_⟩
    obtain ⟨oa, c, h1, h2⟩ := bu_rows h
    cases h1
    obtain ⟨ad, h3, h9⟩ := h2 k x hx
    cases h3
    refine ⟨_, _, rfl, ?_⟩
    rw [Addr.add_lit] at h9
    exact h9

set_option maxRecDepth 100000 in
set_option maxHeartbeats 3200000 in
theorem law (oa : Option Addr) (c : Nat) (L : List UInt8) (w : World) (hc : L.length ≤ c) (hrow : ∀ (k : Nat) (x : UInt8), L[k]? = some x → ∃ b o, oa = some ⟨b, o, none⟩ ∧ w.cell? ⟨b, o + k, none⟩ = some (bv x)) (hg : EtIs w) (hf0 : w.cell? ⟨0, 0, none⟩ = some (.int .i64 0)) (hf1 : w.cell? ⟨0, 1, none⟩ = some (.int .i64 (-1))) :
    Calls Tryd.prog 7 #[.slice oa L.length c] w fun r w' => r = .returned (.bool true) ∧ Below w.heap.size w w' := by
  have hl : 1 < w.heap.size := World.block_lt_of_cell? w _ hg
  have hl0 : 0 < w.heap.size := World.block_lt_of_cell? w _ hf0
  have hdec := Decode_any oa c L w hc hrow
  have hfld : ∀ (x y : Int) (w : World), (Instr.field 48 (.agg #[.int .i64 x, .int .i64 y]) 0).run Tryd.prog w = .ok (.int .i64 x) w := fun x y w => by kernel_rfl
  by_cases h1 : 110000 < L.length
  · have d1 : decide ((6000 : Int) < (L.length : Int)) = true := by simp; omega
    have d2 : decide ((L.length : Int) ≤ 100000) = false := by simp; omega
    have d3 : decide ((110000 : Int) < (L.length : Int)) = true := by simp; omega
    clear hdec
    go_enter Tryd.func7, Tryd.ntmps7
    go_wp2_with fail
    go_ret
    exact ⟨rfl, Below.refl _ _⟩
  by_cases h2 : 100000 < L.length
  · have d1 : decide ((6000 : Int) < (L.length : Int)) = true := by simp; omega
    have d2 : decide ((L.length : Int) ≤ 100000) = false := by simp; omega
    have d3 : decide ((110000 : Int) < (L.length : Int)) = false := by simp; omega
    have d4 : decide ((100000 : Int) < (L.length : Int)) = true := by simp; omega
    go_enter Tryd.func7, Tryd.ntmps7
    go_wp2_with fail
    refine hdec.mono ?_
    rintro r w1 ⟨hB1, h⟩
    rcases h with ⟨_, rfl⟩ | ⟨h, _⟩ | ⟨h, _⟩
    rotate_left
    · omega
    · omega
    go_wp2_with fail
    refine (bare_errno 4 4 w1 (hg.below hB1 hl)).mono ?_
    rintro r w2 ⟨rfl, hb2⟩
    have hB2 := hB1.trans (hb2.mono hB1.size)
    go_wp2_with fail
    go_ret
    exact ⟨rfl, hB2⟩
  by_cases h3 : 6000 < L.length
  · have d1 : decide ((6000 : Int) < (L.length : Int)) = true := by simp; omega
    have d2 : decide ((L.length : Int) ≤ 100000) = true := by simp; omega
    clear hdec
    go_enter Tryd.func7, Tryd.ntmps7
    go_wp2_with fail
    go_ret
    exact ⟨rfl, Below.refl _ _⟩
  have d1 : decide ((6000 : Int) < (L.length : Int)) = false := by simp; omega
  have d3 : decide ((110000 : Int) < (L.length : Int)) = false := by simp; omega
  have d4 : decide ((100000 : Int) < (L.length : Int)) = false := by simp; omega
  go_enter Tryd.func7, Tryd.ntmps7
  go_wp2_with fail
  refine hdec.mono ?_
  rintro r w1 ⟨hB1, h⟩
  have hg1 := hg.below hB1 hl
  rcases h with ⟨h, _⟩ | ⟨_, _, rfl⟩ | ⟨_, hgood, m, ib, e, p, v, hsame, hrm, him, hv, he, h⟩
  · omega
  · go_wp2_with fail
    refine (place_errno 3 w1 hg1).mono ?_
    rintro r w2 ⟨rfl, hb2⟩
    have hB2 := hB1.trans (hb2.mono hB1.size)
    go_wp2_with fail
    go_ret
    exact ⟨rfl, hB2⟩
  rcases h with ⟨h0, rfl⟩ | ⟨rfl, rfl⟩
  · have hr := verdict_range hv h0
    rcases he with ⟨h, _⟩ | ⟨_, rfl, rfl⟩ | ⟨b, rfl, hb, _⟩
    · exact absurd h h0
    · go_wp2_with fail
      refine (place_errno e w1 hg1).mono ?_
      rintro r w2 ⟨rfl, hb2⟩
      have hB2 := hB1.trans (hb2.mono hB1.size)
      rcases hr with rfl | rfl | rfl
      · go_wp2_with fail
        go_ret
        exact ⟨rfl, hB2⟩
      · go_wp2_with fail
        go_ret
        exact ⟨rfl, hB2⟩
      · go_wp2_with fail
        go_ret
        exact ⟨rfl, hB2⟩
    · go_wp2_with fail
      refine (place_at e p b 0 w1 (Lib.cell_of_block hb (by simp)) (Lib.cell_of_block hb (by simp)) hg1).mono ?_
      rintro r w2 ⟨rfl, hb2⟩
      have hB2 := hB1.trans (hb2.mono hB1.size)
      by_cases hp : p < 0
      · have hpd : decide (p < 0) = true := by simpa using hp
        rcases hr with rfl | rfl | rfl
        · go_wp2_with fail
          go_ret
          exact ⟨rfl, hB2⟩
        · go_wp2_with fail
          go_ret
          exact ⟨rfl, hB2⟩
        · go_wp2_with fail
          go_ret
          exact ⟨rfl, hB2⟩
      · have hpd : decide (p < 0) = false := by simpa using hp
        rcases hr with rfl | rfl | rfl
        · go_wp2_with fail
          go_ret
          exact ⟨rfl, hB2⟩
        · go_wp2_with fail
          go_ret
          exact ⟨rfl, hB2⟩
        · go_wp2_with fail
          go_ret
          exact ⟨rfl, hB2⟩
  have h4 : 4 ≤ L.length := by
    have h1 := congrArg ByteArray.size hgood.head
    have h2 : (sub L 0 4).size = min 4 L.length := by
      show ((L.drop 0).take 4).toArray.size = _
      simp
    rw [h2] at h1
    have h3 : (⟨#[82, 87, 78, 68]⟩ : ByteArray).size = 4 := rfl
    omega
  have hG := (gd_im (by omega) 4 false h4).2.2.2 hgood.bad
  have hle := (gd_im (by omega) 4 false h4).2.1
  have hok := imOk_same hsame hG.ok
  have hnm := names_same hsame hG.names
  have hbl : (body m).length ≤ 35184372088832 := by
    have h1 := hG.len
    have h2 := body_same hsame
    rw [← h2]
    omega
  have hem : enc m = L := (enc_same hsame).symm.trans hgood.enc
  have hfew : FewIm m := fewIm_of (k := (imP L 4 false).2.1 - 4) hv (by omega) (fun f hf => (by obtain ⟨g, hg, hs⟩ := mem_same hsame.funcs hf; rw [← hs.code, ← hs.hs, ← hs.vars]; exact hG.fs g hg)) (fun f hf => (by obtain ⟨g, hg, hs⟩ := mem_same hsame.classes hf; rw [← hs.fields, ← hs.names, ← hs.methods]; exact hG.cs g hg))
  have hem2 : Aside (enc m = L) := hem
  have hr1 := rows_below hrow hB1 (Nat.le_refl _)
  have hcv1 := convAll w1 oa L c hr1
  clear hG hle hem hgood hsame hrow hdec h1 h2 h3 h4 d1 d3
  go_wp2_with fail
  have hB1d := hB1.drew
  have hrmd : Row w1.drew ib 0 m.vals := fun k v hv => hrm k v hv
  have himd := him.below ((Below.refl _ w1).drew) (Nat.le_refl _)
  have hr1d : ∀ (k : Nat) (x : UInt8), L[k]? = some x → ∃ b o, oa = some ⟨b, o, none⟩ ∧ w1.drew.cell? ⟨b, o + k, none⟩ = some (bv x) := hr1
  have hcvd := convAll w1.drew oa L c hr1d
  refine RegU.begin (S := fun wz => (convert 64 9 (.slice oa L.length c)).run Tryd.prog wz = .ok (.string (sub L 0 L.length)) wz) (N := [4, 5, 6, 7, 8]) (by kernel_rfl) hcvd (fun hHeld => ?_)
  clear hrm him hB1 hr1 hcv1 he
  generalize w1.drew = wd at *
  refine RegU.take [1, 2, 3, 4, 5, 6, 7, 8, 9, 10, 11, 12, 13, 14, 15, 16, 17, 18] (i := 0) (v := ?_) rfl (by kernel_rfl) (by kernel_rfl) (by kernel_rfl) (by kernel_rfl) (by kernel_rfl) (fun _ _ _ h => h) (Or.inl ⟨by rfl, ?_⟩) (by assumption) ?_
  rotate_left
  · intro w hSw; (try dsimp only at hSw); go_simp; first | done | with_reducible rfl
  try simp only [Act.put, List.setIfInBounds_toArray, List.set_cons_zero, List.set_cons_succ]
  refine RegU.take [2, 3, 4, 5, 6, 7, 8, 9, 10, 11, 12, 13, 14, 15, 16, 17, 18] (i := 1) (v := ?_) rfl (by kernel_rfl) (by kernel_rfl) (by kernel_rfl) (by kernel_rfl) (by kernel_rfl) (fun _ _ _ h => h) (Or.inl ⟨by rfl, ?_⟩) (by assumption) ?_
  rotate_left
  · intro w hSw; (try dsimp only at hSw); go_simp; first | done | with_reducible rfl
  try simp only [Act.put, List.setIfInBounds_toArray, List.set_cons_zero, List.set_cons_succ]
  refine RegU.take [3, 4, 5, 6, 7, 8, 9, 10, 11, 12, 13, 14, 15, 16, 17, 18] (i := 2) (v := ?_) rfl (by kernel_rfl) (by kernel_rfl) (by kernel_rfl) (by kernel_rfl) (by kernel_rfl) (fun _ _ _ h => h) (Or.inl ⟨by rfl, ?_⟩) (by assumption) ?_
  rotate_left
  · intro w hSw; (try dsimp only at hSw); go_simp; first | done | with_reducible rfl
  try simp only [Act.put, List.setIfInBounds_toArray, List.set_cons_zero, List.set_cons_succ]
  refine RegU.take [4, 5, 6, 9, 10, 11, 12, 13, 14, 15, 16, 17, 18] (i := 3) (v := ?_) rfl (by kernel_rfl) (by kernel_rfl) (by kernel_rfl) (by kernel_rfl) (by kernel_rfl) (fun _ _ _ h => h) (Or.inl ⟨by rfl, ?_⟩) (by assumption) ?_
  rotate_left
  · intro w hSw; (try dsimp only at hSw); go_simp; first | done | with_reducible rfl
  try simp only [Act.put, List.setIfInBounds_toArray, List.set_cons_zero, List.set_cons_succ]
  refine RegU.take [8, 9, 10, 11, 12, 13, 14, 15, 16, 17, 18] (i := 7) (v := ?_) rfl (by kernel_rfl) (by kernel_rfl) (by kernel_rfl) (by kernel_rfl) (by kernel_rfl) (fun _ _ _ h => h) (Or.inl ⟨by rfl, ?_⟩) (by assumption) ?_
  rotate_left
  · intro w hSw; (try dsimp only at hSw); go_simp; first | done | with_reducible rfl
  try simp only [Act.put, List.setIfInBounds_toArray, List.set_cons_zero, List.set_cons_succ]
  refine RegU.take [9, 10, 11, 12, 13, 14, 15, 16, 17, 18] (i := 8) (v := ?_) rfl (by kernel_rfl) (by kernel_rfl) (by kernel_rfl) (by kernel_rfl) (by kernel_rfl) (fun _ _ _ h => h) (Or.inl ⟨by rfl, ?_⟩) (by assumption) ?_
  rotate_left
  · intro w hSw; (try dsimp only at hSw); go_simp; first | done | with_reducible rfl
  try simp only [Act.put, List.setIfInBounds_toArray, List.set_cons_zero, List.set_cons_succ]
  refine RegU.one (i := 4) (by kernel_rfl) rfl (fun K hK => ?_)
  go_simp
  refine (image_any ib 0 m wd hrmd himd hfew).mono ?_
  rintro r w2 ⟨b2, m2, rfl, hrow2, hi2, hs2, hb2⟩
  have hr2 := rows_below hr1d hb2 (Nat.le_refl _)
  refine hK.out _ _ (convAll w2 oa L c hr2) (fun hHeld => ?_)
  clear hK K
  try simp only [Act.put, List.setIfInBounds_toArray, List.set_cons_zero, List.set_cons_succ]
  have hB2 := hB1d.trans (hb2.mono hB1d.size)
  have hrm2 := hrmd.below hb2 (Nat.le_refl _)
  have him2 := himd.below hb2 (Nat.le_refl _)
  have hok2 := imOk_same hs2 hok
  have hnm2 := names_same hs2 hnm
  have hbl2 : (body m2).length ≤ 35184372088832 := by rw [← body_same hs2]; exact hbl
  have he2 : Aside (enc m2 = L) := (enc_same hs2).symm.trans hem2.out
  refine RegU.one (i := 5) (by kernel_rfl) rfl (fun K hK => ?_)
  go_simp
  refine (EncE.Encode_any b2 0 m2 w2 hrow2 hi2 hok2 hnm2 hbl2).mono ?_
  rintro r w3 ⟨v3, rfl, hu3, hb3⟩
  have hr3 := rows_below hr2 hb3 (Nat.le_refl _)
  refine hK.out _ _ (convAll w3 oa L c hr3) (fun hHeld => ?_)
  clear hK K
  try simp only [Act.put, List.setIfInBounds_toArray, List.set_cons_zero, List.set_cons_succ]
  have hB3 := hB2.trans (hb3.mono hB2.size)
  have hrm3 := hrm2.below hb3 (Nat.le_refl _)
  have him3 := him2.below hb3 (Nat.le_refl _)
  rw [he2.out] at hu3
  obtain ⟨oe, ce, rfl, _, hre⟩ := bu_rows2 hu3
  have hcv3 := convAll w3 oe L ce hre
  clear hu3 hre hr3 hr2 hr1d hrow2 hi2 hb2 hb3 hok2 hnm2 hbl2 hcvd
  generalize sub L 0 L.length = sL at *
  refine RegU.one (i := 6) (by kernel_rfl) rfl (fun K hK => ?_)
  go_simp
  refine hK.out _ _ hHeld (fun hHeld => ?_)
  clear hK K
  try simp only [Act.put, List.setIfInBounds_toArray, List.set_cons_zero, List.set_cons_succ]
  have hself : (sL.toList == sL.toList) = true := by simp
  refine RegU.rest [9, 10, 11, 12, 13, 14, 15, 16, 17, 18] [_, _, _, _, _, _, _, _, _, _] (by kernel_rfl) rfl ?_
  go_wp2_with fail
  refine (image_any ib 0 m w3 hrm3 him3 hfew).mono ?_
  rintro r w4 ⟨b4, m4, rfl, hrow4, hi4, hs4, hb4⟩
  have hB4 := hB3.trans (hb4.mono hB3.size)
  go_wp2_with fail
  refine (ImageCheck_any b4 0 m4 w4 hrow4 hi4 (bOk_im (imOk_same hs4 hok)) (by rw [hB4.cell (p := ⟨0, 0, none⟩) hl0]; exact hf0) (by rw [hB4.cell (p := ⟨0, 1, none⟩) hl0]; exact hf1)).mono ?_
  rintro r w5 ⟨e5, p5, rfl, hv5, hb5⟩
  obtain ⟨rfl, rfl⟩ := (imVerdict_same hs4 hv).unique hv5
  have hB5 := hB4.trans (hb5.mono hB4.size)
  go_wp2_with fail
  go_ret
  exact ⟨rfl, hB5⟩
end Go.Proofs.YthbkklnahhdgcaaDoor.DecK
