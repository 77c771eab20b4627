/-
  Package heap's collector: Minor's loops over roots, and over what is remembered.
-/
import Derived.Test.YthbkklnahhdgcaaMChJ
import Derived.Lib.Hide
namespace Go.Proofs.Ythbkklnahhdgcaa.ChK
open Go Go.Proofs Go.RowKit Go.Proofs.Ythbkklnahhdgcaa.Lib Go.Proofs.Ythbkklnahhdgcaa.HeapR Go.Proofs.Ythbkklnahhdgcaa.HeapA Go.Proofs.Ythbkklnahhdgcaa.ChA Go.Proofs.Ythbkklnahhdgcaa.ChB Go.Proofs.Ythbkklnahhdgcaa.ChT Go.Proofs.Ythbkklnahhdgcaa.ChCa Go.Proofs.Ythbkklnahhdgcaa.ChCc Go.Proofs.Ythbkklnahhdgcaa.ChCd Go.Proofs.Ythbkklnahhdgcaa.ChD Go.Proofs.Ythbkklnahhdgcaa.ChE Go.Proofs.Ythbkklnahhdgcaa.ChF Go.Proofs.Ythbkklnahhdgcaa.ChG Go.Proofs.Ythbkklnahhdgcaa.ChH Go.Proofs.Ythbkklnahhdgcaa.ChI Go.Proofs.Ythbkklnahhdgcaa.ChJ

/-- What holds at each round over roots. -/
def RelR (p : Par) (tv0 : Value) (w : World) (L0 : List Ob) (P : Nat → Bool) (rs : List (Nat × Nat)) (f : Nat × Nat → Vl) (i : Nat) (wr : World) : Prop := ∃ tv K, Half p tv0 w L0 P rs f i wr tv K

def InvR (p : Par) (oa : Option Addr) (_rb _ro c : Nat) (tv0 : Value) (w : World) (L0 : List Ob) (P : Nat → Bool) (rs : List (Nat × Nat)) (f : Nat × Nat → Vl) (u0 u1 u2 u3 u4 u5 u7 u9 u10 u11 u12 u13 u14 u15 u16 u17 u18 u19 u20 u21 u22 u23 u24 u25 u26 u27 u28 u29 u30 u31 u32 u33 u34 u35 u36 u37 u38 u49 u50 u51 u52 u53 u54 u55 u56 u57 u58 u59 u60 u61 u62 u63 u64 u65 u66 u67 u68 u69 u70 u71 u72 u73 u74 u75 u76 u77 u78 u79 u80 u81 u82 u83 u84 u85 u86 u87 u88 u89 u90 u91 u92 u93 u94 u95 u96 u97 u98 u99 u100 u101 u102 u103 u104 u105 u106 u107 u108 u109 u110 u111 u112 u113 u114 u115 u116 u117 u118 u119 : Value) (a : Act) (wr : World) : Prop :=
  ∃ (i : Nat) (s8 s42 s43 s44 s45 s46 s47 s48 : Value), RelR p tv0 w L0 P rs f i wr ∧ a = ⟨#[u0, u1, u2, u3, u4, u5, (.pointer (some ⟨p.kb, 0, none⟩)), u7, s8, u9, u10, u11, u12, u13, u14, u15, u16, u17, u18, u19, u20, u21, u22, u23, u24, u25, u26, u27, u28, u29, u30, u31, u32, u33, u34, u35, u36, u37, u38, (.slice oa rs.length c), (.int .i64 (rs.length : Int)), (.int .i64 (i : Int)), s42, s43, s44, s45, s46, s47, s48, u49, u50, u51, u52, u53, u54, u55, u56, u57, u58, u59, u60, u61, u62, u63, u64, u65, u66, u67, u68, u69, u70, u71, u72, u73, u74, u75, u76, u77, u78, u79, u80, u81, u82, u83, u84, u85, u86, u87, u88, u89, u90, u91, u92, u93, u94, u95, u96, u97, u98, u99, u100, u101, u102, u103, u104, u105, u106, u107, u108, u109, u110, u111, u112, u113, u114, u115, u116, u117, u118, u119], []⟩
def muR (n : Nat) (a : Act) (_ : World) : Nat := n - (intOf (a.tmps.getD 41 undef)).toNat

set_option maxRecDepth 100000 in
set_option maxHeartbeats 1000000 in
theorem roots_loop {p : Par} (hp : p.OK) {Q : Exit → Act → World → Prop} (u0 u1 u2 u3 u4 u5 u7 u8 u9 u10 u11 u12 u13 u14 u15 u16 u17 u18 u19 u20 u21 u22 u23 u24 u25 u26 u27 u28 u29 u30 u31 u32 u33 u34 u35 u36 u37 u38 u42 u43 u44 u45 u46 u47 u48 u49 u50 u51 u52 u53 u54 u55 u56 u57 u58 u59 u60 u61 u62 u63 u64 u65 u66 u67 u68 u69 u70 u71 u72 u73 u74 u75 u76 u77 u78 u79 u80 u81 u82 u83 u84 u85 u86 u87 u88 u89 u90 u91 u92 u93 u94 u95 u96 u97 u98 u99 u100 u101 u102 u103 u104 u105 u106 u107 u108 u109 u110 u111 u112 u113 u114 u115 u116 u117 u118 u119 : Value) (oa : Option Addr) (rb ro c : Nat) (tv0 : Value) (w : World) (L0 : List Ob) (P : Nat → Bool) (rs : List (Nat × Nat)) (f : Nat × Nat → Vl)
    (hmj : p.maj = false) (h0 : Half p tv0 w L0 P rs f 0 w tv0 []) (hA : RootsApart rs) (hlen : rs.length ≤ big) (hre : ∀ (i : Nat) (a : Nat × Nat), rs[i]? = some a → oa = some ⟨rb, ro, none⟩ ∧ w.cell? ⟨rb, ro + i, none⟩ = some (.pointer (some ⟨a.1, a.2, none⟩)) ∧ ¬ Tset p tv0 rb ∧ (∀ b ∈ rs, b.1 ≠ rb))
    (hn : ∀ a ∈ rs, (f a).k = 4 → p.from_ (f a).n = true → ∃ o, Leads p o ∧ (f a).n = (o.addr : Int))
    (hQ : ∀ (s8 s42 s43 s44 s45 s46 s47 s48 : Value) (w' : World), RelR p tv0 w L0 P rs f rs.length w' → Q (.exit 0) ⟨#[u0, u1, u2, u3, u4, u5, (.pointer (some ⟨p.kb, 0, none⟩)), u7, s8, u9, u10, u11, u12, u13, u14, u15, u16, u17, u18, u19, u20, u21, u22, u23, u24, u25, u26, u27, u28, u29, u30, u31, u32, u33, u34, u35, u36, u37, u38, (.slice oa rs.length c), (.int .i64 (rs.length : Int)), (.int .i64 (rs.length : Int)), s42, s43, s44, s45, s46, s47, s48, u49, u50, u51, u52, u53, u54, u55, u56, u57, u58, u59, u60, u61, u62, u63, u64, u65, u66, u67, u68, u69, u70, u71, u72, u73, u74, u75, u76, u77, u78, u79, u80, u81, u82, u83, u84, u85, u86, u87, u88, u89, u90, u91, u92, u93, u94, u95, u96, u97, u98, u99, u100, u101, u102, u103, u104, u105, u106, u107, u108, u109, u110, u111, u112, u113, u114, u115, u116, u117, u118, u119], []⟩ w') :
    Code.wp Try.prog (Cut.piece Try.f11 (Cut.loop 6)) Q ⟨#[u0, u1, u2, u3, u4, u5, (.pointer (some ⟨p.kb, 0, none⟩)), u7, u8, u9, u10, u11, u12, u13, u14, u15, u16, u17, u18, u19, u20, u21, u22, u23, u24, u25, u26, u27, u28, u29, u30, u31, u32, u33, u34, u35, u36, u37, u38, (.slice oa rs.length c), (.int .i64 (rs.length : Int)), (.int .i64 (0 : Int)), u42, u43, u44, u45, u46, u47, u48, u49, u50, u51, u52, u53, u54, u55, u56, u57, u58, u59, u60, u61, u62, u63, u64, u65, u66, u67, u68, u69, u70, u71, u72, u73, u74, u75, u76, u77, u78, u79, u80, u81, u82, u83, u84, u85, u86, u87, u88, u89, u90, u91, u92, u93, u94, u95, u96, u97, u98, u99, u100, u101, u102, u103, u104, u105, u106, u107, u108, u109, u110, u111, u112, u113, u114, u115, u116, u117, u118, u119], []⟩ w := by
  conv => arg 2; whnf
  refine wp_loop (InvR p oa rb ro c tv0 w L0 P rs f u0 u1 u2 u3 u4 u5 u7 u9 u10 u11 u12 u13 u14 u15 u16 u17 u18 u19 u20 u21 u22 u23 u24 u25 u26 u27 u28 u29 u30 u31 u32 u33 u34 u35 u36 u37 u38 u49 u50 u51 u52 u53 u54 u55 u56 u57 u58 u59 u60 u61 u62 u63 u64 u65 u66 u67 u68 u69 u70 u71 u72 u73 u74 u75 u76 u77 u78 u79 u80 u81 u82 u83 u84 u85 u86 u87 u88 u89 u90 u91 u92 u93 u94 u95 u96 u97 u98 u99 u100 u101 u102 u103 u104 u105 u106 u107 u108 u109 u110 u111 u112 u113 u114 u115 u116 u117 u118 u119) (muR rs.length) ?_ (fun a' wr hI => ?_)
  · exact ⟨0, u8, u42, u43, u44, u45, u46, u47, u48, ⟨tv0, [], h0⟩, rfl⟩
  obtain ⟨i, hI⟩ := hI
  obtain ⟨s8, hI⟩ := hI
  obtain ⟨s42, hI⟩ := hI
  obtain ⟨s43, hI⟩ := hI
  obtain ⟨s44, hI⟩ := hI
  obtain ⟨s45, hI⟩ := hI
  obtain ⟨s46, hI⟩ := hI
  obtain ⟨s47, hI⟩ := hI
  obtain ⟨s48, hI⟩ := hI
  obtain ⟨⟨tv, K, hH⟩, rfl⟩ := hI
  have hi := hH.le
  by_cases hil : i < rs.length
  · have hil' : decide ((i : Int) < (rs.length : Int)) = true := by simpa using hil
    have hil2 : (i : Int) < (rs.length : Int) := by omega
    have hi0 : (0 : Int) ≤ (i : Int) := by omega
    obtain ⟨a, ha⟩ : ∃ a, rs[i]? = some a := ⟨_, List.getElem?_eq_getElem hil⟩
    obtain ⟨rfl, hc, hT, hB⟩ := hre i a ha
    have har := List.mem_of_getElem? ha
    have hcr : wr.cell? ⟨rb, ro + i, none⟩ = some (.pointer (some ⟨a.1, a.2, none⟩)) := (World.cell?_of_block (a := ⟨rb, ro + i, none⟩) (hH.grew.1.block rb (World.block_lt_of_cell? w _ hc) (fun h => h.elim hT (fun ⟨b, hb, e⟩ => hB b hb e)))).trans hc
    obtain ⟨q0, q1, q2, q3⟩ := hH.roots.cell a har
    have hcall := move_any hp hH.cr a.1 a.2 _ _ q0 q1 q3 (hH.roots.out a har) (fun g1 g2 => by
      by_cases hat : a ∈ rs.take i
      · rw [if_pos hat] at g1 g2
        exact absurd ⟨g1, g2⟩ (newN_again hmj _ _ _)
      · rw [if_neg hat] at g1 g2 ⊢
        exact hn a har g1 g2)
    have b3 : i + 1 ≤ big := by omega
    clear hre hn q0 q1 q2 q3 hc
    have c3 : IntKind.i64.wrap ((i : Int) + 1) = (i : Int) + 1 := wrapk_two i 1 b3
    have c6 : wrap64 ((i : Int) + 1) = (i : Int) + 1 := wrap_two i 1 b3
    go_wp2_with fail
    refine hcall.mono ?_
    rintro e w2 ⟨rfl, hM⟩
    obtain ⟨tv2, K2, hH2⟩ := half_minor hmj hH hA ha hM
    clear hcall hM hH
    go_wp2_with fail
    clear c3 c6
    refine ⟨⟨i + 1, _, _, _, _, _, _, _, _, ⟨tv2, K2, hH2⟩, rfl⟩, ?_⟩
    simp [muR, intOf]
    omega
  · have hie : i = rs.length := by omega
    subst hie
    have hil' : decide ((rs.length : Int) < (rs.length : Int)) = false := by simp
    clear hre hn
    go_wp2
    exact ⟨tv, K, hH⟩

/-- What holds at each round over what is remembered. -/
def RelM (p : Par) (tv0 : Value) (w : World) (L0 : List Ob) (P : Nat → Bool) (rem : List Int) (i : Nat) (wr : World) : Prop :=
  i ≤ rem.length ∧ ∃ tv K P', CR p wr tv (L0 ++ K) P' ∧ (∀ j : Nat, P' j = true ↔ P j = true ∨ ((p.room + j : Nat) : Int) ∈ rem.take i) ∧ Grew p tv0 w tv wr
theorem mem_take_succ' {rs : List Int} {i : Nat} {a b : Int} (h : rs[i]? = some a) : b ∈ rs.take (i + 1) ↔ b ∈ rs.take i ∨ b = a := by
  rw [List.take_add_one, h]
  simp

theorem wrapk_one {j : Nat} (h : j ≤ big) : IntKind.i64.wrap (j : Int) = (j : Int) := by
  unfold big at h
  exact IntWalk.i64_in _ (by omega)
theorem wrap_one {j : Nat} (h : j ≤ big) : wrap64 (j : Int) = (j : Int) := by
  unfold big at h
  unfold wrap64
  omega

def InvM (p : Par) (oa : Option Addr) (_rb c : Nat) (tv0 : Value) (w : World) (L0 : List Ob) (P : Nat → Bool) (rem : List Int) (u0 u1 u3 u4 u5 u7 u8 u9 u11 u12 u13 u14 u15 u16 u17 u18 u19 u20 u21 u22 u23 u24 u25 u26 u27 u28 u29 u30 u31 u32 u33 u34 u35 u36 u37 u38 u39 u40 u41 u42 u43 u44 u45 u46 u47 u48 u49 u50 u51 u67 u68 u69 u70 u71 u72 u73 u74 u75 u76 u77 u78 u79 u80 u81 u82 u83 u84 u85 u86 u87 u88 u89 u90 u91 u92 u93 u94 u95 u96 u97 u98 u99 u100 u101 u102 u103 u104 u105 u106 u107 u108 u109 u110 u111 u112 u113 u114 u115 u116 u117 u118 u119 : Value) (a : Act) (wr : World) : Prop :=
  ∃ (i : Nat) (s10 s55 s56 s57 s58 s59 s60 s61 s62 s63 s64 s65 s66 : Value), RelM p tv0 w L0 P rem i wr ∧ a = ⟨#[u0, u1, (.pointer (some ⟨p.hv, 0, none⟩)), u3, u4, u5, (.pointer (some ⟨p.kb, 0, none⟩)), u7, u8, u9, s10, u11, u12, u13, u14, u15, u16, u17, u18, u19, u20, u21, u22, u23, u24, u25, u26, u27, u28, u29, u30, u31, u32, u33, u34, u35, u36, u37, u38, u39, u40, u41, u42, u43, u44, u45, u46, u47, u48, u49, u50, u51, (.slice oa rem.length c), (.int .i64 (rem.length : Int)), (.int .i64 (i : Int)), s55, s56, s57, s58, s59, s60, s61, s62, s63, s64, s65, s66, u67, u68, u69, u70, u71, u72, u73, u74, u75, u76, u77, u78, u79, u80, u81, u82, u83, u84, u85, u86, u87, u88, u89, u90, u91, u92, u93, u94, u95, u96, u97, u98, u99, u100, u101, u102, u103, u104, u105, u106, u107, u108, u109, u110, u111, u112, u113, u114, u115, u116, u117, u118, u119], []⟩
def muM (n : Nat) (a : Act) (_ : World) : Nat := n - (intOf (a.tmps.getD 54 undef)).toNat

set_option maxRecDepth 100000 in
set_option maxHeartbeats 1000000 in
theorem rem_loop {p : Par} (hp : p.OK) {Q : Exit → Act → World → Prop} (u0 u1 u3 u4 u5 u7 u8 u9 u10 u11 u12 u13 u14 u15 u16 u17 u18 u19 u20 u21 u22 u23 u24 u25 u26 u27 u28 u29 u30 u31 u32 u33 u34 u35 u36 u37 u38 u39 u40 u41 u42 u43 u44 u45 u46 u47 u48 u49 u50 u51 u55 u56 u57 u58 u59 u60 u61 u62 u63 u64 u65 u66 u67 u68 u69 u70 u71 u72 u73 u74 u75 u76 u77 u78 u79 u80 u81 u82 u83 u84 u85 u86 u87 u88 u89 u90 u91 u92 u93 u94 u95 u96 u97 u98 u99 u100 u101 u102 u103 u104 u105 u106 u107 u108 u109 u110 u111 u112 u113 u114 u115 u116 u117 u118 u119 : Value) (oa : Option Addr) (rb c : Nat) (tv0 : Value) (w : World) (L0 : List Ob) (P : Nat → Bool) (rem : List Int)
    (hmj : p.maj = false) (h0 : CR p w tv0 L0 P) (hlen : rem.length ≤ big) (hre : ∀ (i : Nat) (r : Int), rem[i]? = some r → oa = some ⟨rb, 0, none⟩ ∧ w.cell? ⟨rb, i, none⟩ = some (.int .i64 r) ∧ ¬ Tset p tv0 rb)
    (hn : ∀ r ∈ rem, ∃ (j : Nat) (x : HCell), r = ((p.room + j : Nat) : Int) ∧ p.base[j]? = some x ∧ (x.vk = 4 → p.from_ x.vn = true → ∃ o, Leads p o ∧ x.vn = (o.addr : Int)))
    (hQ : ∀ (s10 s55 s56 s57 s58 s59 s60 s61 s62 s63 s64 s65 s66 : Value) (w' : World), RelM p tv0 w L0 P rem rem.length w' → Q (.exit 2) ⟨#[u0, u1, (.pointer (some ⟨p.hv, 0, none⟩)), u3, u4, u5, (.pointer (some ⟨p.kb, 0, none⟩)), u7, u8, u9, s10, u11, u12, u13, u14, u15, u16, u17, u18, u19, u20, u21, u22, u23, u24, u25, u26, u27, u28, u29, u30, u31, u32, u33, u34, u35, u36, u37, u38, u39, u40, u41, u42, u43, u44, u45, u46, u47, u48, u49, u50, u51, (.slice oa rem.length c), (.int .i64 (rem.length : Int)), (.int .i64 (rem.length : Int)), s55, s56, s57, s58, s59, s60, s61, s62, s63, s64, s65, s66, u67, u68, u69, u70, u71, u72, u73, u74, u75, u76, u77, u78, u79, u80, u81, u82, u83, u84, u85, u86, u87, u88, u89, u90, u91, u92, u93, u94, u95, u96, u97, u98, u99, u100, u101, u102, u103, u104, u105, u106, u107, u108, u109, u110, u111, u112, u113, u114, u115, u116, u117, u118, u119], []⟩ w') :
    Code.wp Try.prog (Cut.piece Try.f11 (Cut.loop 11)) Q ⟨#[u0, u1, (.pointer (some ⟨p.hv, 0, none⟩)), u3, u4, u5, (.pointer (some ⟨p.kb, 0, none⟩)), u7, u8, u9, u10, u11, u12, u13, u14, u15, u16, u17, u18, u19, u20, u21, u22, u23, u24, u25, u26, u27, u28, u29, u30, u31, u32, u33, u34, u35, u36, u37, u38, u39, u40, u41, u42, u43, u44, u45, u46, u47, u48, u49, u50, u51, (.slice oa rem.length c), (.int .i64 (rem.length : Int)), (.int .i64 (0 : Int)), u55, u56, u57, u58, u59, u60, u61, u62, u63, u64, u65, u66, u67, u68, u69, u70, u71, u72, u73, u74, u75, u76, u77, u78, u79, u80, u81, u82, u83, u84, u85, u86, u87, u88, u89, u90, u91, u92, u93, u94, u95, u96, u97, u98, u99, u100, u101, u102, u103, u104, u105, u106, u107, u108, u109, u110, u111, u112, u113, u114, u115, u116, u117, u118, u119], []⟩ w := by
  conv => arg 2; whnf
  refine wp_loop (InvM p oa rb c tv0 w L0 P rem u0 u1 u3 u4 u5 u7 u8 u9 u11 u12 u13 u14 u15 u16 u17 u18 u19 u20 u21 u22 u23 u24 u25 u26 u27 u28 u29 u30 u31 u32 u33 u34 u35 u36 u37 u38 u39 u40 u41 u42 u43 u44 u45 u46 u47 u48 u49 u50 u51 u67 u68 u69 u70 u71 u72 u73 u74 u75 u76 u77 u78 u79 u80 u81 u82 u83 u84 u85 u86 u87 u88 u89 u90 u91 u92 u93 u94 u95 u96 u97 u98 u99 u100 u101 u102 u103 u104 u105 u106 u107 u108 u109 u110 u111 u112 u113 u114 u115 u116 u117 u118 u119) (muM rem.length) ?_ (fun a' wr hI => ?_)
  · exact ⟨0, u10, u55, u56, u57, u58, u59, u60, u61, u62, u63, u64, u65, u66, ⟨Nat.zero_le _, tv0, [], P, by rw [List.append_nil]; exact h0, fun j => by simp, Grew.refl _ _ _⟩, rfl⟩
  obtain ⟨i, hI⟩ := hI
  obtain ⟨s10, hI⟩ := hI
  obtain ⟨s55, hI⟩ := hI
  obtain ⟨s56, hI⟩ := hI
  obtain ⟨s57, hI⟩ := hI
  obtain ⟨s58, hI⟩ := hI
  obtain ⟨s59, hI⟩ := hI
  obtain ⟨s60, hI⟩ := hI
  obtain ⟨s61, hI⟩ := hI
  obtain ⟨s62, hI⟩ := hI
  obtain ⟨s63, hI⟩ := hI
  obtain ⟨s64, hI⟩ := hI
  obtain ⟨s65, hI⟩ := hI
  obtain ⟨s66, hI⟩ := hI
  obtain ⟨⟨hi, tv, K, P', hC, hP, hG⟩, rfl⟩ := hI
  by_cases hil : i < rem.length
  · have hil' : decide ((i : Int) < (rem.length : Int)) = true := by simpa using hil
    have hil2 : (i : Int) < (rem.length : Int) := by omega
    have hi0 : (0 : Int) ≤ (i : Int) := by omega
    obtain ⟨r, hr⟩ : ∃ r, rem[i]? = some r := ⟨_, List.getElem?_eq_getElem hil⟩
    obtain ⟨rfl, hc, hT⟩ := hre i r hr
    have hrr := List.mem_of_getElem? hr
    obtain ⟨j, x, hrj, hx, hl⟩ := hn r hrr
    have hcr : wr.cell? ⟨rb, i, none⟩ = some (.int .i64 r) := (World.cell?_of_block (a := ⟨rb, i, none⟩) (hG.1.block rb (World.block_lt_of_cell? w _ hc) hT)).trans hc
    have hjl := (List.getElem?_eq_some_iff.1 hx).1
    have hx' : (p.base ++ flat (L0 ++ K))[j]? = some x := by
      rw [List.getElem?_append_left hjl]
      exact hx
    have hcall := field_any hp hC j x hx' hl (fun _ => hmj)
    have c3r : wr.cell? ⟨p.hb, 3, none⟩ = some (.int .i64 (p.room : Int)) := cell_of_block hC.hblk hp.h3
    have hvr : wr.cell? ⟨p.hv, 0, none⟩ = some (.pointer (some ⟨p.hb, 0, none⟩)) := hC.hvar hmj
    have hsz := hp.size
    have b3 : i + 1 ≤ big := by omega
    have bj : j ≤ big := by omega
    have hsub : r - (p.room : Int) = (j : Int) := by omega
    clear hre hn hsz hc
    have d1 : IntKind.i64.wrap (r - (p.room : Int)) = (j : Int) := by rw [hsub]; exact wrapk_one bj
    have d2 : wrap64 (r - (p.room : Int)) = (j : Int) := by rw [hsub]; exact wrap_one bj
    have c3 : IntKind.i64.wrap ((i : Int) + 1) = (i : Int) + 1 := wrapk_two i 1 b3
    have c6 : wrap64 ((i : Int) + 1) = (i : Int) + 1 := wrap_two i 1 b3
    have Hr := Lib.hid hrj
    clear hsub hrj
    go_wp2_with fail
    refine hcall.mono ?_
    rintro e w2 ⟨rfl, tv2, K2, hC2, hT2, ho2⟩
    clear hcall
    go_wp2_with fail
    clear c3 c6 d1 d2
    have hrj := Hr.out
    refine ⟨⟨i + 1, _, _, _, _, _, _, _, _, _, _, _, _, _, ⟨by omega, tv2, K ++ K2, with1 P' j, by rw [← List.append_assoc]; exact hC2, fun q => ?_, hG.trans ⟨hT2, ho2⟩⟩, rfl⟩, ?_⟩
    · rw [mem_take_succ' hr]
      by_cases hq : q = j
      · subst hq
        rw [with1_eq]
        exact ⟨fun _ => Or.inr (Or.inr hrj.symm), fun _ => rfl⟩
      · rw [with1_ne _ hq, hP q]
        constructor
        · exact fun h => h.imp id Or.inl
        · rintro (h | h | h)
          · exact Or.inl h
          · exact Or.inr h
          · omega
    · simp [muM, intOf]
      omega
  · have hie : i = rem.length := by omega
    subst hie
    have hil' : decide ((rem.length : Int) < (rem.length : Int)) = false := by simp
    clear hre hn
    go_wp2
    exact ⟨Nat.le_refl _, tv, K, P', hC, hP, hG⟩

end Go.Proofs.Ythbkklnahhdgcaa.ChK
