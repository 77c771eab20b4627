/-
  Package heap's live, whole.
-/
import Derived.Test.YthbkklnahhdgcaaMChW
import Derived.WalkSpells
namespace Go.Proofs.Ythbkklnahhdgcaa.ChX
open Go Go.Proofs Go.RowKit Go.Maps Go.Proofs.Ythbkklnahhdgcaa.Lib Go.Proofs.Ythbkklnahhdgcaa.HeapR Go.Proofs.Ythbkklnahhdgcaa.HeapC Go.Proofs.Ythbkklnahhdgcaa.HeapD Go.Proofs.Ythbkklnahhdgcaa.ChA Go.Proofs.Ythbkklnahhdgcaa.ChT Go.Proofs.Ythbkklnahhdgcaa.ChCa Go.Proofs.Ythbkklnahhdgcaa.ChCc Go.Proofs.Ythbkklnahhdgcaa.ChE Go.Proofs.Ythbkklnahhdgcaa.ChH Go.Proofs.Ythbkklnahhdgcaa.ChI Go.Proofs.Ythbkklnahhdgcaa.ChK Go.Proofs.Ythbkklnahhdgcaa.ChL Go.Proofs.Ythbkklnahhdgcaa.ChN Go.Proofs.Ythbkklnahhdgcaa.ChQ Go.Proofs.Ythbkklnahhdgcaa.ChR Go.Proofs.Ythbkklnahhdgcaa.ChU Go.Proofs.Ythbkklnahhdgcaa.ChV Go.Proofs.Ythbkklnahhdgcaa.ChW

theorem row_pop {w : World} {base e g n c : Nat} {xs : List Value} {x : Value} (h : w.ownsRow base e 1 (.slice (some ⟨g, 0, none⟩) (n + 1) c) (n + 1) (xs ++ [x])) : w.ownsRow base e 1 (.slice (some ⟨g, 0, none⟩) n c) n xs := by
  have hl := h.1
  rw [List.length_append, List.length_singleton] at hl
  refine ⟨by omega, ?_⟩
  rcases h.2 with ⟨h1, _⟩ | ⟨g', cap, cur, h1, h2, h3, h4, h5, h6, h7⟩
  · cases h1
  · cases h1
    refine Or.inr ⟨g, c, cur, rfl, h2, h3, by omega, h5, h6, ?_⟩
    have e1 : n * 1 = xs.length := by omega
    rw [e1]
    have h8 := congrArg (List.take xs.length) h7
    rw [List.take_take, List.take_left, Nat.min_eq_left (by omega)] at h8
    exact h8
theorem ls_pop {w : World} {vs vt sb B : Nat} {S T : List Int} {a : Int} (h : LS w vs vt sb B S (T ++ [a])) {o : Option Addr} {c : Nat} (hv : w.cell? ⟨vt, 0, none⟩ = some (.slice o (T.length + 1) c)) :
    LS (w.setCell ⟨vt, 0, none⟩ (.slice o T.length c)) vs vt sb B S T ∧ Below B w (w.setCell ⟨vt, 0, none⟩ (.slice o T.length c)) ∧ ∃ g, o = some ⟨g, 0, none⟩ ∧ w.cell? ⟨g, T.length, none⟩ = some (.int .i64 a) ∧ T.length + 1 ≤ c := by
  obtain ⟨o', c', t1, t2, t3, t4, t5⟩ := h.tv
  rw [List.length_append, List.length_singleton] at t1 t2 t3 t4 t5
  have e : Value.slice o' (T.length + 1) c' = .slice o (T.length + 1) c := by
    have h1 : w.cell? ⟨vt, 0, none⟩ = some (.slice o' (T.length + 1) c') := cell_of_block t1 rfl
    rw [hv] at h1
    exact (Option.some.inj h1).symm
  cases e
  obtain ⟨g, cg, hg⟩ := row_slice t2 (by omega)
  cases hg
  rw [List.map_append] at t2
  obtain ⟨n1, n2, n3⟩ := h.ne
  obtain ⟨D, m1, m2⟩ := h.mp
  have t6 := row_pop t2
  refine ⟨{ h with
    sv := (blk_ne n1).trans h.sv
    tv := ⟨some ⟨g, 0, none⟩, c, blk_set t1 _, ownsRow_same t6 fun k hk => blk_ne (fun e => t4 (hk.trans (congrArg some e))), t3, t4, t5⟩
    mp := ⟨D, HeapF.ownsMap_same m1 (blk_ne (fun e => n3 e.symm)), m2⟩ }, (Below.refl _ _).setCell h.lo.2.1 _, g, rfl, ?_, ?_⟩
  · rw [t2.cellAt T.length (by omega), List.getElem?_append_right (by simp)]
    simp
  · rcases t2.2 with ⟨q1, _⟩ | ⟨g', cap, cur, q1, _, _, q4, _⟩
    · cases q1
    · cases q1
      exact q4

/-- What holds at each round of live's work. -/
def RelLO (w0 : World) (vs vt sb : Nat) (O : List Ob) (src : Nat → Prop) (S0 Pd : List Ob) (wr : World) : Prop :=
  ∃ S T, LiveI w0 vs vt sb O src S T wr ∧ S.Perm (Pd ++ T) ∧ (∀ o ∈ Pd, ∀ v ∈ o.fs, v.k = 4 → ∃ x ∈ S, v.n = (x.addr : Int)) ∧ ∃ K, S = S0 ++ K
/-- What it leaves. -/
def RelLE (w0 : World) (O : List Ob) (src : Nat → Prop) (S0 S : List Ob) (wr : World) : Prop :=
  Below w0.heap.size w0 wr ∧ S.Nodup ∧ (∀ o ∈ S, Reached O src o) ∧ (∀ o ∈ S, ∀ v ∈ o.fs, v.k = 4 → ∃ x ∈ S, v.n = (x.addr : Int)) ∧ ∃ K, S.Perm (S0 ++ K)
def InvLO (hb : Nat) (w0 : World) (vs vt sb : Nat) (O : List Ob) (src : Nat → Prop) (S0 : List Ob) (u1 u2 u3 u4 u5 u8 u9 u16 u17 u18 u19 u20 u21 u22 u23 u24 u25 u26 u27 u28 u29 u66 : Value) (a : Act) (wr : World) : Prop :=
  ∃ (Pd : List Ob) (s11 s12 s13 s14 s15 s30 s31 s32 s33 s34 s35 s36 s37 s38 s39 s40 s41 s42 s43 s44 s45 s46 s47 s48 s49 s50 s51 s52 s53 s54 s55 s56 s57 s58 s59 s60 s61 s62 s63 s64 s65 : Value), RelLO w0 vs vt sb O src S0 Pd wr ∧ a = ⟨#[(.pointer (some ⟨hb, 0, none⟩)), u1, u2, u3, u4, u5, (.pointer (some ⟨vt, 0, none⟩)), (.func (Fn.func 30) #[] #[.pointer (some ⟨vs, 0, none⟩), .pointer (some ⟨vt, 0, none⟩)]), u8, u9, (.int .i64 (total Pd : Int)), s11, s12, s13, s14, s15, u16, u17, u18, u19, u20, u21, u22, u23, u24, u25, u26, u27, u28, u29, s30, s31, s32, s33, s34, s35, s36, s37, s38, s39, s40, s41, s42, s43, s44, s45, s46, s47, s48, s49, s50, s51, s52, s53, s54, s55, s56, s57, s58, s59, s60, s61, s62, s63, s64, s65, u66], []⟩
def muLO (a : Act) (_ : World) : Nat := big - (intOf (a.tmps.getD 10 undef)).toNat

theorem wrapk_pop {m : Nat} (h : m + 1 ≤ big) : IntKind.i64.wrap ((m : Int) + 1 - 1) = (m : Int) := by
  unfold big at h
  rw [show (m : Int) + 1 - 1 = (m : Int) by omega]
  exact IntWalk.i64_in _ (by omega)
theorem wrap_pop {m : Nat} (h : m + 1 ≤ big) : wrap64 ((m : Int) + 1 - 1) = (m : Int) := by
  unfold big at h
  unfold wrap64
  omega
set_option maxRecDepth 100000 in
set_option maxHeartbeats 1000000 in
theorem live_work {Q : Exit → Act → World → Prop} (u1 u2 u3 u4 u5 u8 u9 u11 u12 u13 u14 u15 u16 u17 u18 u19 u20 u21 u22 u23 u24 u25 u26 u27 u28 u29 u30 u31 u32 u33 u34 u35 u36 u37 u38 u39 u40 u41 u42 u43 u44 u45 u46 u47 u48 u49 u50 u51 u52 u53 u54 u55 u56 u57 u58 u59 u60 u61 u62 u63 u64 u65 u66 : Value) (w0 : World) (hb nb mb : Nat) (ov rv : Value) (B : Nat) (H : HS) (nu ol : List Ob) (vs vt sb : Nat) (src : Nat → Prop) (S0 : List Ob) (w : World)
    (h : HR w0 hb nb mb ov rv B H) (hi : HI H nu ol) (h0 : LiveI w0 vs vt sb (nu ++ ol) src S0 S0 w) (hO : total (nu ++ ol) < big) (ha : ∀ o ∈ nu ++ ol, o.addr + o.len ≤ big)
    (hQ : ∀ (S : List Ob) (s11 s12 s13 s14 s15 s30 s31 s32 s33 s34 s35 s36 s37 s38 s39 s40 s41 s42 s43 s44 s45 s46 s47 s48 s49 s50 s51 s52 s53 s54 s55 s56 s57 s58 s59 s60 s61 s62 s63 s64 s65 : Value) (w' : World), RelLE w0 (nu ++ ol) src S0 S w' → Q (.exit 2) ⟨#[(.pointer (some ⟨hb, 0, none⟩)), u1, u2, u3, u4, u5, (.pointer (some ⟨vt, 0, none⟩)), (.func (Fn.func 30) #[] #[.pointer (some ⟨vs, 0, none⟩), .pointer (some ⟨vt, 0, none⟩)]), u8, u9, (.int .i64 (total S : Int)), s11, s12, s13, s14, s15, u16, u17, u18, u19, u20, u21, u22, u23, u24, u25, u26, u27, u28, u29, s30, s31, s32, s33, s34, s35, s36, s37, s38, s39, s40, s41, s42, s43, s44, s45, s46, s47, s48, s49, s50, s51, s52, s53, s54, s55, s56, s57, s58, s59, s60, s61, s62, s63, s64, s65, u66], []⟩ w') :
    Code.wp Try.prog (Cut.piece Try.f27 (Cut.loop 10)) Q ⟨#[(.pointer (some ⟨hb, 0, none⟩)), u1, u2, u3, u4, u5, (.pointer (some ⟨vt, 0, none⟩)), (.func (Fn.func 30) #[] #[.pointer (some ⟨vs, 0, none⟩), .pointer (some ⟨vt, 0, none⟩)]), u8, u9, (.int .i64 (0 : Int)), u11, u12, u13, u14, u15, u16, u17, u18, u19, u20, u21, u22, u23, u24, u25, u26, u27, u28, u29, u30, u31, u32, u33, u34, u35, u36, u37, u38, u39, u40, u41, u42, u43, u44, u45, u46, u47, u48, u49, u50, u51, u52, u53, u54, u55, u56, u57, u58, u59, u60, u61, u62, u63, u64, u65, u66], []⟩ w := by
  conv => arg 2; whnf
  refine wp_loop (InvLO hb w0 vs vt sb (nu ++ ol) src S0 u1 u2 u3 u4 u5 u8 u9 u16 u17 u18 u19 u20 u21 u22 u23 u24 u25 u26 u27 u28 u29 u66) muLO ?_ (fun a' wr hI => ?_)
  · exact ⟨[], u11, u12, u13, u14, u15, u30, u31, u32, u33, u34, u35, u36, u37, u38, u39, u40, u41, u42, u43, u44, u45, u46, u47, u48, u49, u50, u51, u52, u53, u54, u55, u56, u57, u58, u59, u60, u61, u62, u63, u64, u65, ⟨S0, S0, h0, List.Perm.refl _, fun o ho => by (cases ho), [], by simp⟩, rfl⟩
  obtain ⟨Pd, hI⟩ := hI
  obtain ⟨s11, hI⟩ := hI
  obtain ⟨s12, hI⟩ := hI
  obtain ⟨s13, hI⟩ := hI
  obtain ⟨s14, hI⟩ := hI
  obtain ⟨s15, hI⟩ := hI
  obtain ⟨s30, hI⟩ := hI
  obtain ⟨s31, hI⟩ := hI
  obtain ⟨s32, hI⟩ := hI
  obtain ⟨s33, hI⟩ := hI
  obtain ⟨s34, hI⟩ := hI
  obtain ⟨s35, hI⟩ := hI
  obtain ⟨s36, hI⟩ := hI
  obtain ⟨s37, hI⟩ := hI
  obtain ⟨s38, hI⟩ := hI
  obtain ⟨s39, hI⟩ := hI
  obtain ⟨s40, hI⟩ := hI
  obtain ⟨s41, hI⟩ := hI
  obtain ⟨s42, hI⟩ := hI
  obtain ⟨s43, hI⟩ := hI
  obtain ⟨s44, hI⟩ := hI
  obtain ⟨s45, hI⟩ := hI
  obtain ⟨s46, hI⟩ := hI
  obtain ⟨s47, hI⟩ := hI
  obtain ⟨s48, hI⟩ := hI
  obtain ⟨s49, hI⟩ := hI
  obtain ⟨s50, hI⟩ := hI
  obtain ⟨s51, hI⟩ := hI
  obtain ⟨s52, hI⟩ := hI
  obtain ⟨s53, hI⟩ := hI
  obtain ⟨s54, hI⟩ := hI
  obtain ⟨s55, hI⟩ := hI
  obtain ⟨s56, hI⟩ := hI
  obtain ⟨s57, hI⟩ := hI
  obtain ⟨s58, hI⟩ := hI
  obtain ⟨s59, hI⟩ := hI
  obtain ⟨s60, hI⟩ := hI
  obtain ⟨s61, hI⟩ := hI
  obtain ⟨s62, hI⟩ := hI
  obtain ⟨s63, hI⟩ := hI
  obtain ⟨s64, hI⟩ := hI
  obtain ⟨s65, hI⟩ := hI
  obtain ⟨⟨S, T, hL, hP, hd, K0, hK0⟩, rfl⟩ := hI
  have hsm := hL.small hO
  rcases List.eq_nil_or_concat T with rfl | ⟨T', x, rfl⟩
  · obtain ⟨o, c, t1, _⟩ := hL.ls.tv
    have tc : wr.cell? ⟨vt, 0, none⟩ = some (.slice o 0 c) := cell_of_block t1 rfl
    rw [List.append_nil] at hP
    have hfin : RelLE w0 (nu ++ ol) src S0 Pd wr := ⟨hL.below, hP.nodup_iff.mp hL.nd, fun o ho => hL.led o (hP.mem_iff.mpr ho), fun o ho v hv hk => by
      obtain ⟨y, hy, e⟩ := hd o ho v hv hk
      exact ⟨y, hP.mem_iff.mp hy, e⟩, K0, hP.symm.trans (by rw [hK0])⟩
    clear hL hP hd hK0 hsm t1
    go_wp2
    exact hfin
  · rw [List.concat_eq_append] at *
    obtain ⟨o, c, t1, _⟩ := hL.ls.tv
    have hm : (addrs (T' ++ [x])).length = T'.length + 1 := by rw [addrs_len]; simp
    rw [hm] at t1
    have tc : wr.cell? ⟨vt, 0, none⟩ = some (.slice o (T'.length + 1) c) := cell_of_block t1 rfl
    have tf : wr.frozen? ⟨vt, 0, none⟩ = false := frozen_of_block t1
    have hls := hL.ls
    rw [addrs_snoc] at hls
    obtain ⟨p1, p2, g, rfl, p3, p4⟩ := ls_pop hls (o := o) (c := c) (by rw [addrs_len]; exact tc)
    rw [addrs_len] at p1 p2 p3 p4
    have hxS : x ∈ S := hP.mem_iff.mpr (List.mem_append.mpr (Or.inr (List.mem_append.mpr (Or.inr (by simp)))))
    have hxr := hL.led x hxS
    have hxO := reached_mem hxr
    have hL1 : LiveI w0 vs vt sb (nu ++ ol) src S T' (wr.setCell ⟨vt, 0, none⟩ (.slice (some ⟨g, 0, none⟩) T'.length c)) := ⟨p1, hL.below.trans p2, hL.nd, hL.led, by have := hL.le; rw [List.length_append] at this; omega⟩
    have hbm : T'.length + 1 ≤ big := by
      have := hL.le
      rw [List.length_append, List.length_singleton] at this
      omega
    have hr1 := h.below hL1.below
    have hxa := ha x hxO
    have hbig := big_lt
    have hsize := Size_yes hr1 (x.addr : Int) (by omega) (x.head 0) (head_obj hr1 hi hxO)
    have hsize' : Calls Try.prog 8 #[.pointer (some ⟨hb, 0, none⟩), .int .i64 (x.addr : Int)] (wr.setCell ⟨vt, 0, none⟩ (.slice (some ⟨g, 0, none⟩) T'.length c)) fun e w' => e = .returned (.int .i64 (x.fs.length : Int)) ∧ Below (wr.setCell ⟨vt, 0, none⟩ (.slice (some ⟨g, 0, none⟩) T'.length c)).heap.size (wr.setCell ⟨vt, 0, none⟩ (.slice (some ⟨g, 0, none⟩) T'.length c)) w' := hsize
    have htx : total Pd + x.len ≤ total (nu ++ ol) := by
      have h1 : (Pd ++ (T' ++ [x])).Nodup := hP.nodup_iff.mp hL.nd
      have h2 := total_le h1 (O := nu ++ ol) (fun o ho => reached_mem (hL.led o (hP.mem_iff.mpr ho)))
      rw [total_append, total_append] at h2
      simp only [total, List.map_cons, List.map_nil, List.sum_cons, List.sum_nil] at h2 ⊢
      omega
    have hxl : x.len = 1 + x.fs.length := rfl
    have b1 : 1 + x.fs.length ≤ big := by omega
    have b2 : total Pd + (1 + x.fs.length) ≤ big := by omega
    clear hsize hsm t1 p1 p2 hls hm hr1 hbig
    generalize hmm : T'.length = m at *
    have g4 : (m : Int) ≤ (c : Int) := by omega
    have g5 : ¬ c = 0 := by omega
    have A1 := Lib.hid hmm
    have A2 := Lib.hid hP
    have A3 := Lib.hid hd
    have A4 := Lib.hid hK0
    clear hmm hP hd hK0
    have c1 : IntKind.i64.wrap ((m : Int) + 1 - 1) = (m : Int) := wrapk_pop hbm
    have c2 : wrap64 ((m : Int) + 1 - 1) = (m : Int) := wrap_pop hbm
    have c3 : IntKind.i64.wrap (m : Int) = (m : Int) := wrapk_one (Nat.le_of_succ_le hbm)
    have c4 : wrap64 (m : Int) = (m : Int) := wrap_one (Nat.le_of_succ_le hbm)
    have c5 : IntKind.i64.wrap (1 + (x.fs.length : Int)) = 1 + (x.fs.length : Int) := wrapk_two 1 x.fs.length b1
    have c6 : wrap64 (1 + (x.fs.length : Int)) = 1 + (x.fs.length : Int) := wrap_two 1 x.fs.length b1
    have c7 : IntKind.i64.wrap ((total Pd : Int) + (1 + (x.fs.length : Int))) = (total Pd : Int) + (1 + (x.fs.length : Int)) := wrapk_in b2
    have c8 : wrap64 ((total Pd : Int) + (1 + (x.fs.length : Int))) = (total Pd : Int) + (1 + (x.fs.length : Int)) := wrap_in b2
    have g0 : decide (0 < (m : Int) + 1) = true := by
      clear c1 c2 c3 c4 c5 c6 c7 c8
      simp only [decide_eq_true_eq]
      omega
    have g1 : (m : Int) < (m : Int) + 1 := Int.lt_succ _
    have g2 : (0 : Int) ≤ (m : Int) := Int.natCast_nonneg _
    have g3 : (m : Int) ≤ (m : Int) + 1 := Int.le_of_lt g1
    go_wp2_with (go_at_call 8; refine hsize'.mono ?_; rintro e w2 ⟨rfl, hb2⟩)
    clear c1 c2 c3 c4 c5 c6 c7 c8 g0 g1 g2 g3
    refine live_fields _ _ _ _ _ _ _ _ _ _ _ _ _ _ _ _ _ _ _ _ _ _ _ _ _ _ _ _ _ _ _ _ _ _ _ _ _ _ _ _ _ _ _ _ _ _ _ _ _ _ _ _ _ _ _ _ _ _ _ _ _ _ w0 hb nb mb ov rv B H nu ol vs vt sb src S T' x _ h hi hxO hxr (hL1.same hb2) hO ha ?_
    intro t13 t14 t15 t53 t54 t55 t56 t57 t58 t59 t60 t61 t62 t63 t64 t65 w3 hF
    obtain ⟨_, K, hL3, hs3⟩ := hF
    rw [List.take_length] at hs3
    have hfin : RelLO w0 vs vt sb (nu ++ ol) src S0 (Pd ++ [x]) w3 := by
      refine ⟨S ++ K, T' ++ K, hL3, ?_, fun o ho v hv hk => ?_, K0 ++ K, by rw [A4.out, List.append_assoc]⟩
      · have h1 : (S ++ K).Perm ((Pd ++ (T' ++ [x])) ++ K) := A2.out.append_right K
        refine h1.trans ?_
        rw [List.append_assoc, List.append_assoc, List.append_assoc]
        refine List.Perm.append_left Pd ?_
        rw [← List.append_assoc, ← List.append_assoc]
        exact (List.perm_append_comm (l₁ := T') (l₂ := [x])).append_right K
      · rcases List.mem_append.mp ho with ho | ho
        · obtain ⟨y, hy, e⟩ := A3.out o ho v hv hk
          exact ⟨y, List.mem_append.mpr (Or.inl hy), e⟩
        · have : o = x := by simpa using ho
          subst this
          exact hs3 v hv hk
    have htot : total (Pd ++ [x]) = total Pd + (1 + x.fs.length) := by
      rw [total_append]
      simp [total, Ob.len]
    have heq : (total Pd : Int) + (1 + (x.fs.length : Int)) = ((total (Pd ++ [x]) : Nat) : Int) := by
      rw [htot]
      omega
    have A5 := Lib.hid hfin
    have A6 := Lib.hid heq
    have A7 := Lib.hid htot
    clear hL3 hs3 hfin heq htot hL hL1 tc tf p3
    go_wp2
    rw [A6.out]
    refine ⟨⟨Pd ++ [x], _, _, _, _, _, _, _, _, _, _, _, _, _, _, _, _, _, _, _, _, _, _, _, _, _, _, _, _, _, _, _, _, _, _, _, _, _, _, _, _, _, A5.out, rfl⟩, ?_⟩
    have htot := A7.out
    generalize total (Pd ++ [x]) = q at htot ⊢
    simp [muLO, intOf]
    omega

/-- What roots lead to. -/
def rootSrc (rs : List (Nat × Nat)) (f : Nat × Nat → Vl) (a : Nat) : Prop := ∃ r ∈ rs, (f r).k = 4 ∧ (f r).n = (a : Int)
set_option maxRecDepth 100000 in
set_option maxHeartbeats 2000000 in
theorem live_any {w : World} {hb nb mb : Nat} {ov rv : Value} {B : Nat} {H : HS} {nu ol : List Ob} (h : HR w hb nb mb ov rv B H) (hi : HI H nu ol) {v : Value} {rs : List (Nat × Nat)} {f : Nat × Nat → Vl} (hr : RootsAt w (Owns hb nb mb ov rv) v rs f) (hroot : ∀ a ∈ rs, (f a).k = 4 → ∃ x ∈ nu ++ ol, (f a).n = (x.addr : Int)) :
    Calls Try.prog 27 #[.pointer (some ⟨hb, 0, none⟩), v] w fun e w' => ∃ S, e = .returned (.int .i64 (total S : Int)) ∧ Below w.heap.size w w' ∧ S.Nodup ∧ (∀ o, o ∈ S ↔ Reached (nu ++ ol) (rootSrc rs f) o) := by
  have hsz : H.room + H.old.length + total nu + 1 ≤ big := by
    have h1 := h.om
    have h2 := h.mm
    have h3 := h.rr
    have h4 := hi.fit
    unfold big
    omega
  have hO : total (nu ++ ol) < big := by
    rw [total_append, ← hi.olen]
    omega
  have ha : ∀ o ∈ nu ++ ol, o.addr + o.len ≤ big := fun o ho => by
    rcases List.mem_append.mp ho with ho | ho
    · have := min_addr hi ho
      omega
    · have h1 := laid_in hi.oa ho
      rw [← hi.olen] at h1
      omega
  obtain ⟨oa, rb, ro, c, rfl, hre⟩ := hr.list
  have hre' : ∀ (i : Nat) (a : Nat × Nat), rs[i]? = some a → oa = some ⟨rb, ro, none⟩ ∧ w.cell? ⟨rb, ro + i, none⟩ = some (.pointer (some ⟨a.1, a.2, none⟩)) := fun i a hia => ⟨(hre i a hia).1, (hre i a hia).2.1⟩
  have hc : ∀ a ∈ rs, w.cell? ⟨a.1, a.2, none⟩ = some (.int .i64 (f a).k) ∧ w.cell? ⟨a.1, a.2 + 1, none⟩ = some (.int .i64 (f a).n) ∧ w.cell? ⟨a.1, a.2 + 2, none⟩ = some (.string (f a).s) := fun a ha => ⟨(hr.cell a ha).1, (hr.cell a ha).2.1, (hr.cell a ha).2.2.1⟩
  have hv : ∀ a ∈ rs, (f a).k = 4 → ∃ o, Reached (nu ++ ol) (rootSrc rs f) o ∧ (f a).n = (o.addr : Int) := fun a ha' hk => by
    obtain ⟨x, hx, e⟩ := hroot a ha' hk
    exact ⟨x, .src hx ⟨a, ha', hk, e⟩, e⟩
  have hmm := @run_makeMap Try.prog
  have hL0 : LiveI w (w.heap.size + 1) (w.heap.size + 2) w.heap.size (nu ++ ol) (rootSrc rs f) [] [] (((w.alloc (.map #[] 0)).alloc (.cells #[.map (some w.heap.size)] 37 (0, 0))).alloc (.cells #[.slice none 0 0] 22 (0, 0))) := by
    refine ⟨⟨?_, ⟨none, 0, ?_, World.ownsRow_nil _ _ _ _, by simp [Value.ownBlock], by simp [Value.ownBlock], by simp [Value.ownBlock]⟩, ⟨.map [], ?_, ⟨isMap_empty, fun _ => rfl⟩⟩, by omega, by omega⟩, ?_, List.nodup_nil, fun o ho => by (cases ho), Nat.le_refl _⟩
    · rw [Below.heap_alloc _ _ _ (by simp)]
      exact heap_alloc_at (by simp) _
    · exact heap_alloc_at (by simp) _
    · exact (((World.ownsMap_made w Try.prog 3 (plainElem Try.prog 4)).alloc _).alloc _)
    · exact (((Below.refl _ w).alloc (Nat.le_refl _) _).alloc (by simp) _).alloc (by simp; omega) _
  have HL := Lib.hid hL0
  have HRE := Lib.hid hre'
  have HC := Lib.hid hc
  have HV := Lib.hid hv
  clear hL0 hre' hc hv hre
  go_enter Try.func27, Try.ntmps27
  go_wp2
  refine live_roots _ _ _ _ _ _ _ _ _ _ _ _ _ _ _ _ _ _ _ _ _ _ _ _ _ _ _ _ _ _ _ _ _ _ _ _ _ _ _ _ _ _ _ _ _ _ _ _ _ _ _ _ _ _ _ _ _ _ _ _ _ _ _ oa rb ro c w (w.heap.size + 1) (w.heap.size + 2) w.heap.size (nu ++ ol) (rootSrc rs f) rs f _ (by exact HL.out) hO hi.apart (fun o ho => by have := ha o ho; omega) hr.len HRE.out HC.out HV.out ?_
  intro s9 s21 s22 s23 s24 s25 s26 s27 s28 s29 w2 hR2
  obtain ⟨_, S1, hL1, hs1⟩ := hR2
  rw [List.take_length] at hs1
  have HS1 := Lib.hid hs1
  clear hs1
  go_wp2
  refine live_work _ _ _ _ _ _ _ _ _ _ _ _ _ _ _ _ _ _ _ _ _ _ _ _ _ _ _ _ _ _ _ _ _ _ _ _ _ _ _ _ _ _ _ _ _ _ _ _ _ _ _ _ _ _ _ _ _ _ _ _ _ _ _ w hb nb mb ov rv B H nu ol (w.heap.size + 1) (w.heap.size + 2) w.heap.size (rootSrc rs f) S1 w2 h hi hL1 hO ha ?_
  intro S t11 t12 t13 t14 t15 t30 t31 t32 t33 t34 t35 t36 t37 t38 t39 t40 t41 t42 t43 t44 t45 t46 t47 t48 t49 t50 t51 t52 t53 t54 t55 t56 t57 t58 t59 t60 t61 t62 t63 t64 t65 w3 hE
  obtain ⟨hbl, hnd, hled, hcl, K, hK⟩ := hE
  have hfin : ∀ o, o ∈ S ↔ Reached (nu ++ ol) (rootSrc rs f) o := fun o => by
    refine ⟨fun ho => hled o ho, fun ho => ?_⟩
    induction ho with
    | src ho hsrc =>
      obtain ⟨r, hr', hk, hn⟩ := hsrc
      obtain ⟨x, hx, e⟩ := HS1.out r hr' hk
      have hxS : x ∈ S := hK.mem_iff.mpr (List.mem_append.mpr (Or.inl hx))
      have := hi.apart x (reached_mem (hled x hxS)) _ ho (by omega)
      rw [← this]
      exact hxS
    | step _ hv' hk hn ho ih =>
      obtain ⟨x, hx, e⟩ := hcl _ ih _ hv' hk
      have := hi.apart x (reached_mem (hled x hx)) _ ho (by omega)
      rw [← this]
      exact hx
  have A1 := Lib.hid hfin
  clear hfin hled hcl hK
  go_wp2
  go_ret
  exact ⟨S, rfl, hbl, hnd, A1.out⟩

end Go.Proofs.Ythbkklnahhdgcaa.ChX
