/-
  Package heap's Major: its loop over roots.
-/
import Derived.Test.YthbkklnahhdgcaaMChYa
namespace Go.Proofs.Ythbkklnahhdgcaa.ChYb
open Go Go.Proofs Go.RowKit Go.Maps Go.Proofs.Ythbkklnahhdgcaa.Lib Go.Proofs.Ythbkklnahhdgcaa.HeapR Go.Proofs.Ythbkklnahhdgcaa.ChA Go.Proofs.Ythbkklnahhdgcaa.ChT Go.Proofs.Ythbkklnahhdgcaa.ChCa Go.Proofs.Ythbkklnahhdgcaa.ChCc Go.Proofs.Ythbkklnahhdgcaa.ChD Go.Proofs.Ythbkklnahhdgcaa.ChE Go.Proofs.Ythbkklnahhdgcaa.ChF Go.Proofs.Ythbkklnahhdgcaa.ChG Go.Proofs.Ythbkklnahhdgcaa.ChH Go.Proofs.Ythbkklnahhdgcaa.ChI Go.Proofs.Ythbkklnahhdgcaa.ChJ Go.Proofs.Ythbkklnahhdgcaa.ChV Go.Proofs.Ythbkklnahhdgcaa.ChYa

/-- The blocks that the loop turns besides. -/
def extra (rs : List (Nat × Nat)) (sb j : Nat) : Prop := (∃ b ∈ rs, b.1 = j) ∨ j = sb
/-- What holds at each round over roots. -/
def RelRM (p : Par) (tv0 : Value) (w0 : World) (sb : Nat) (P : Nat → Bool) (rs : List (Nat × Nat)) (f : Nat × Nat → Vl) (i : Nat) (wr : World) : Prop :=
  ∃ tv K l, Half p tv wr [] P rs f i wr tv K ∧ PSet wr sb l ∧ (∀ b, b ∈ l ↔ b ∈ rs.take i) ∧ GrewR p (extra rs sb) tv0 w0 tv wr
theorem half_base {p : Par} {tv0 : Value} {w0 : World} {L0 : List Ob} {P : Nat → Bool} {rs : List (Nat × Nat)} {f : Nat × Nat → Vl} {i : Nat} {wr : World} {tv : Value} {K : List Ob} (h : Half p tv0 w0 L0 P rs f i wr tv K) : Half p tv wr L0 P rs f i wr tv K := ⟨h.le, h.cr, h.roots, h.has_, GrewR.refl _ _ _ _⟩
/-- Another block turns. -/
theorem half_other {p : Par} {L0 : List Ob} {P : Nat → Bool} {rs : List (Nat × Nat)} {f : Nat × Nat → Vl} {i : Nat} {w w' : World} {tv : Value} {K : List Ob} (h : Half p tv w L0 P rs f i w tv K) {sb : Nat} (hg : w.grownBy w' (some sb)) (hn : ¬ Own p tv sb) (hr : ∀ b ∈ rs, b.1 ≠ sb) : Half p tv w' L0 P rs f i w' tv K := by
  have hb : ∀ k, k < w.heap.size → k ≠ sb → w'.heap[k]? = w.heap[k]? := fun k hk hne => hg.block k hk (fun e => hne (Option.some.inj e))
  refine ⟨h.le, h.cr.same (fun k hk => hb k (own_lt_size h.cr hk) (fun e => hn (e ▸ hk))) hg.size, ⟨fun a ha => ?_, h.roots.out, fun a ha => ?_⟩, h.has_, GrewR.refl _ _ _ _⟩
  · obtain ⟨q0, q1, q2, q3⟩ := h.roots.cell a ha
    have he := hb a.1 (World.block_lt_of_cell? w _ q0) (hr a ha)
    exact ⟨(World.cell?_of_block (a := ⟨a.1, a.2, none⟩) he).trans q0, (World.cell?_of_block (a := ⟨a.1, a.2 + 1, none⟩) he).trans q1, (World.cell?_of_block (a := ⟨a.1, a.2 + 2, none⟩) he).trans q2, (World.frozen?_of_block (a := ⟨a.1, a.2 + 1, none⟩) he).trans q3⟩
  · obtain ⟨c, t, e⟩ := h.roots.blk a ha
    exact ⟨c, t, (hb a.1 (lt_of_block e) (hr a ha)).trans e⟩

def InvRM (p : Par) (oa : Option Addr) (c : Nat) (tv0 : Value) (w0 : World) (sb : Nat) (P : Nat → Bool) (rs : List (Nat × Nat)) (f : Nat × Nat → Vl) (u0 u1 u2 u3 u4 u7 u9 u10 u11 u12 u13 u14 u15 u16 u17 u18 u19 u20 u21 u22 u39 u40 u41 u42 u43 u44 u45 u46 u47 u48 u49 u50 u51 u52 u53 u54 u55 u56 u57 u58 u59 u60 u61 u62 u63 u64 u65 u66 u67 : Value) (a : Act) (wr : World) : Prop :=
  ∃ (i : Nat) (s8 s26 s27 s28 s29 s30 s31 s32 s33 s34 s35 s36 s37 s38 : Value), RelRM p tv0 w0 sb P rs f i wr ∧ a = ⟨#[u0, u1, u2, u3, u4, (.pointer (some ⟨p.kb, 0, none⟩)), (.map (some sb)), u7, s8, u9, u10, u11, u12, u13, u14, u15, u16, u17, u18, u19, u20, u21, u22, (.slice oa rs.length c), (.int .i64 (rs.length : Int)), (.int .i64 (i : Int)), s26, s27, s28, s29, s30, s31, s32, s33, s34, s35, s36, s37, s38, u39, u40, u41, u42, u43, u44, u45, u46, u47, u48, u49, u50, u51, u52, u53, u54, u55, u56, u57, u58, u59, u60, u61, u62, u63, u64, u65, u66, u67], []⟩
def muRM (n : Nat) (a : Act) (_ : World) : Nat := n - (intOf (a.tmps.getD 25 undef)).toNat

set_option maxRecDepth 100000 in
set_option maxHeartbeats 1000000 in
theorem major_roots {p : Par} (hp : p.OK) {Q : Exit → Act → World → Prop} (u0 u1 u2 u3 u4 u7 u8 u9 u10 u11 u12 u13 u14 u15 u16 u17 u18 u19 u20 u21 u22 u26 u27 u28 u29 u30 u31 u32 u33 u34 u35 u36 u37 u38 u39 u40 u41 u42 u43 u44 u45 u46 u47 u48 u49 u50 u51 u52 u53 u54 u55 u56 u57 u58 u59 u60 u61 u62 u63 u64 u65 u66 u67 : Value) (oa : Option Addr) (rb ro c : Nat) (tv0 : Value) (w0 : World) (sb : Nat) (P : Nat → Bool) (rs : List (Nat × Nat)) (f : Nat × Nat → Vl)
    (h0 : RelRM p tv0 w0 sb P rs f 0 w0) (hA : RootsApart rs) (hlen : rs.length ≤ big) (hre : ∀ (i : Nat) (a : Nat × Nat), rs[i]? = some a → oa = some ⟨rb, ro, none⟩ ∧ w0.cell? ⟨rb, ro + i, none⟩ = some (.pointer (some ⟨a.1, a.2, none⟩)) ∧ ¬ Tset p tv0 rb ∧ (∀ b ∈ rs, b.1 ≠ rb) ∧ rb ≠ sb)
    (hn : ∀ a ∈ rs, (f a).k = 4 → p.from_ (f a).n = true → ∃ o, Leads p o ∧ (f a).n = (o.addr : Int)) (hsb : sb ≠ p.kb ∧ sb ≠ p.hb ∧ sb ≠ p.hv ∧ sb ≠ p.wb ∧ sb ≠ p.nb ∧ (∀ o ∈ p.O, (p.pl o.addr).1 ≠ sb)) (hrs : ∀ b ∈ rs, b.1 ≠ sb)
    (hQ : ∀ (s8 s26 s27 s28 s29 s30 s31 s32 s33 s34 s35 s36 s37 s38 : Value) (w' : World), RelRM p tv0 w0 sb P rs f rs.length w' → Q (.exit 0) ⟨#[u0, u1, u2, u3, u4, (.pointer (some ⟨p.kb, 0, none⟩)), (.map (some sb)), u7, s8, u9, u10, u11, u12, u13, u14, u15, u16, u17, u18, u19, u20, u21, u22, (.slice oa rs.length c), (.int .i64 (rs.length : Int)), (.int .i64 (rs.length : Int)), s26, s27, s28, s29, s30, s31, s32, s33, s34, s35, s36, s37, s38, u39, u40, u41, u42, u43, u44, u45, u46, u47, u48, u49, u50, u51, u52, u53, u54, u55, u56, u57, u58, u59, u60, u61, u62, u63, u64, u65, u66, u67], []⟩ w') :
    Code.wp Try.prog (Cut.piece Try.f12 (Cut.loop 6)) Q ⟨#[u0, u1, u2, u3, u4, (.pointer (some ⟨p.kb, 0, none⟩)), (.map (some sb)), u7, u8, u9, u10, u11, u12, u13, u14, u15, u16, u17, u18, u19, u20, u21, u22, (.slice oa rs.length c), (.int .i64 (rs.length : Int)), (.int .i64 (0 : Int)), u26, u27, u28, u29, u30, u31, u32, u33, u34, u35, u36, u37, u38, u39, u40, u41, u42, u43, u44, u45, u46, u47, u48, u49, u50, u51, u52, u53, u54, u55, u56, u57, u58, u59, u60, u61, u62, u63, u64, u65, u66, u67], []⟩ w0 := by
  conv => arg 2; whnf
  refine wp_loop (InvRM p oa c tv0 w0 sb P rs f u0 u1 u2 u3 u4 u7 u9 u10 u11 u12 u13 u14 u15 u16 u17 u18 u19 u20 u21 u22 u39 u40 u41 u42 u43 u44 u45 u46 u47 u48 u49 u50 u51 u52 u53 u54 u55 u56 u57 u58 u59 u60 u61 u62 u63 u64 u65 u66 u67) (muRM rs.length) ?_ (fun a' wr hI => ?_)
  · exact ⟨0, u8, u26, u27, u28, u29, u30, u31, u32, u33, u34, u35, u36, u37, u38, h0, rfl⟩
  obtain ⟨i, hI⟩ := hI
  obtain ⟨s8, hI⟩ := hI
  obtain ⟨s26, hI⟩ := hI
  obtain ⟨s27, hI⟩ := hI
  obtain ⟨s28, hI⟩ := hI
  obtain ⟨s29, hI⟩ := hI
  obtain ⟨s30, hI⟩ := hI
  obtain ⟨s31, hI⟩ := hI
  obtain ⟨s32, hI⟩ := hI
  obtain ⟨s33, hI⟩ := hI
  obtain ⟨s34, hI⟩ := hI
  obtain ⟨s35, hI⟩ := hI
  obtain ⟨s36, hI⟩ := hI
  obtain ⟨s37, hI⟩ := hI
  obtain ⟨s38, hI⟩ := hI
  obtain ⟨⟨tv, K, l, hH, hS, hlm, hG⟩, rfl⟩ := hI
  have hi := hH.le
  by_cases hil : i < rs.length
  · have hil' : decide ((i : Int) < (rs.length : Int)) = true := by simpa using hil
    have hil2 : (i : Int) < (rs.length : Int) := by omega
    have hi0 : (0 : Int) ≤ (i : Int) := by omega
    obtain ⟨a, ha⟩ : ∃ a, rs[i]? = some a := ⟨_, List.getElem?_eq_getElem hil⟩
    obtain ⟨rfl, hc, hT, hB, hrsb⟩ := hre i a ha
    have har := List.mem_of_getElem? ha
    have hcr : wr.cell? ⟨rb, ro + i, none⟩ = some (.pointer (some ⟨a.1, a.2, none⟩)) := (World.cell?_of_block (a := ⟨rb, ro + i, none⟩) (hG.1.block rb (World.block_lt_of_cell? w0 _ hc) (fun h => h.elim hT (fun h => h.elim (fun ⟨b, hb, e⟩ => hB b hb e) hrsb)))).trans hc
    have hlook := pset_look hS (hH.roots.blk a har) (fun b hb => hH.roots.blk b (List.mem_of_mem_take ((hlm b).1 hb)))
    have b3 : i + 1 ≤ big := by omega
    by_cases hin : a ∈ rs.take i
    · rw [decide_eq_true ((hlm a).2 hin)] at hlook
      have hfin : RelRM p tv0 w0 sb P rs f (i + 1) wr := ⟨tv, K, l, half_skip hH ha hin, hS, fun b => (hlm b).trans ⟨fun h' => (mem_take_succ ha).2 (Or.inl h'), fun h' => ((mem_take_succ ha).1 h').elim id (fun e => e ▸ hin)⟩, hG⟩
      have A1 := Lib.hid hfin
      clear hre hn hc hlm hH hS hG hfin
      have c3 : IntKind.i64.wrap ((i : Int) + 1) = (i : Int) + 1 := wrapk_two i 1 b3
      have c6 : wrap64 ((i : Int) + 1) = (i : Int) + 1 := wrap_two i 1 b3
      go_wp2
      clear c3 c6
      refine ⟨⟨i + 1, _, _, _, _, _, _, _, _, _, _, _, _, _, _, A1.out, rfl⟩, ?_⟩
      simp [muRM, intOf]
      omega
    · rw [decide_eq_false (fun h' => hin ((hlm a).1 h'))] at hlook
      obtain ⟨w1, hput, hS1, hg1⟩ := pset_put hS (hH.roots.blk a har) (fun b hb => hH.roots.blk b (List.mem_of_mem_take ((hlm b).1 hb))) (fun h' => hin ((hlm a).1 h'))
      obtain ⟨s1, s2, s3, s4, s5, s6⟩ := hsb
      have hnown : ¬ Own p tv sb := fun h' => by
        rcases h' with h' | h' | h' | h' | h' | h' | ⟨o, ho, h'⟩
        · exact s1 h'
        · exact s2 h'
        · exact s3 h'
        · exact s4 h'
        · exact own_ne hH.cr.row (show wr.heap[sb]? = _ from hS.choose_spec.choose_spec.1) (by intro cur e; cases e) h'
        · exact s5 h'
        · exact s6 o ho h'
      have hH1 := half_other hH hg1 hnown hrs
      have hG1 : GrewR p (extra rs sb) tv wr tv w1 := ⟨(Turned.refl _ wr).grown hg1 (fun k hk => Or.inl (Or.inr (Or.inr (Option.some.inj hk).symm))), fun _ h => Or.inl h⟩
      obtain ⟨q0, q1, q2, q3⟩ := hH1.roots.cell a har
      rw [if_neg hin] at q0 q1
      have hcall := move_any hp hH1.cr a.1 a.2 _ _ q0 q1 q3 (hH1.roots.out a har) (hn a har)
      have A1 := Lib.hid hlm
      have A2 := Lib.hid hput
      clear hre hn hc hlm q0 q1 q2 q3
      have c3 : IntKind.i64.wrap ((i : Int) + 1) = (i : Int) + 1 := wrapk_two i 1 b3
      have c6 : wrap64 ((i : Int) + 1) = (i : Int) + 1 := wrap_two i 1 b3
      have hput := A2.out
      go_wp2_with (go_at_call 23; refine hcall.mono ?_; rintro e w2 ⟨rfl, hM⟩)
      clear hcall c3 c6 hput A2 hlook
      obtain ⟨tv2, K2, hH2, hG2⟩ := half_new hH1 hA ha hin hM
      have hS2 : PSet w2 sb (l ++ [a]) := hS1.same (hG2.1.block sb hS1.lt (fun h' => h'.elim (fun h' => hnown (tset_own h')) (fun ⟨b, hb, e⟩ => hrs b hb e)))
      refine ⟨⟨i + 1, _, _, _, _, _, _, _, _, _, _, _, _, _, _, ⟨tv2, K2, l ++ [a], half_base hH2, hS2, fun b => ?_, (hG.trans hG1).trans ⟨hG2.1.mono (fun j h' => h'.imp id Or.inl), hG2.2⟩⟩, rfl⟩, ?_⟩
      · rw [mem_take_succ ha, List.mem_append, A1.out b]
        simp
      · simp [muRM, intOf]
        omega
  · have hie : i = rs.length := by omega
    subst hie
    have hil' : decide ((rs.length : Int) < (rs.length : Int)) = false := by simp
    clear hre hn
    go_wp2
    exact ⟨tv, K, l, hH, hS, hlm, hG⟩

end Go.Proofs.Ythbkklnahhdgcaa.ChYb
