/-
  Package heap's live: how many cells roots lead to.
-/
import Derived.Test.YthbkklnahhdgcaaMChV
namespace Go.Proofs.Ythbkklnahhdgcaa.ChW
open Go Go.Proofs Go.RowKit Go.Maps Go.Proofs.Ythbkklnahhdgcaa.Lib Go.Proofs.Ythbkklnahhdgcaa.HeapR Go.Proofs.Ythbkklnahhdgcaa.HeapC Go.Proofs.Ythbkklnahhdgcaa.HeapD Go.Proofs.Ythbkklnahhdgcaa.ChA Go.Proofs.Ythbkklnahhdgcaa.ChT Go.Proofs.Ythbkklnahhdgcaa.ChCa Go.Proofs.Ythbkklnahhdgcaa.ChCc Go.Proofs.Ythbkklnahhdgcaa.ChE Go.Proofs.Ythbkklnahhdgcaa.ChH Go.Proofs.Ythbkklnahhdgcaa.ChI Go.Proofs.Ythbkklnahhdgcaa.ChK Go.Proofs.Ythbkklnahhdgcaa.ChL Go.Proofs.Ythbkklnahhdgcaa.ChN Go.Proofs.Ythbkklnahhdgcaa.ChQ Go.Proofs.Ythbkklnahhdgcaa.ChR Go.Proofs.Ythbkklnahhdgcaa.ChU Go.Proofs.Ythbkklnahhdgcaa.ChV

def addrs (l : List Ob) : List Int := l.map fun o => (o.addr : Int)
theorem addrs_snoc (l : List Ob) (o : Ob) : addrs (l ++ [o]) = addrs l ++ [(o.addr : Int)] := by simp [addrs]
theorem addrs_len (l : List Ob) : (addrs l).length = l.length := by simp [addrs]
theorem reached_mem {O : List Ob} {src : Nat → Prop} {o : Ob} (h : Reached O src o) : o ∈ O := by
  cases h with
  | src ho _ => exact ho
  | step _ _ _ _ ho => exact ho
/-- What was seen, what is to do. -/
structure LiveI (w0 : World) (vs vt sb : Nat) (O : List Ob) (src : Nat → Prop) (S T : List Ob) (w : World) : Prop where
  ls : LS w vs vt sb w0.heap.size (addrs S) (addrs T)
  below : Below w0.heap.size w0 w
  nd : S.Nodup
  led : ∀ o ∈ S, Reached O src o
  le : T.length ≤ S.length
theorem LiveI.same {w0 w w' : World} {vs vt sb : Nat} {O : List Ob} {src : Nat → Prop} {S T : List Ob} (h : LiveI w0 vs vt sb O src S T w) (hb : Below w.heap.size w w') : LiveI w0 vs vt sb O src S T w' :=
  { h with ls := h.ls.below hb, below := h.below.trans (hb.mono h.below.size) }
theorem LiveI.small {w0 w : World} {vs vt sb : Nat} {O : List Ob} {src : Nat → Prop} {S T : List Ob} (h : LiveI w0 vs vt sb O src S T w) (hO : total O < big) : S.length < big := by
  have h1 := total_le h.nd (fun o ho => reached_mem (h.led o ho))
  have h2 := length_le_total S
  omega
theorem lit_addr (a : Nat) (h : a ≤ big) : (Lit.int .i64 (a : Int)).wf = true := lit_wf _ (by omega) (by have := big_lt; omega)

/-- One value more. -/
theorem come_any {w0 w : World} {vs vt sb : Nat} {O : List Ob} {src : Nat → Prop} {S T : List Ob} (h : LiveI w0 vs vt sb O src S T w) (hO : total O < big) (hA : Apart O) (ha : ∀ o ∈ O, o.addr ≤ big) (v : Vl) (hv : v.k = 4 → ∃ o, Reached O src o ∧ v.n = (o.addr : Int)) :
    Calls Try.prog 30 #[.agg #[.int .i64 v.k, .int .i64 v.n, .string v.s], .pointer (some ⟨vs, 0, none⟩), .pointer (some ⟨vt, 0, none⟩)] w fun e w' => e = .returned (.tuple #[]) ∧ ∃ K, LiveI w0 vs vt sb O src (S ++ K) (T ++ K) w' ∧ (v.k = 4 → ∃ x ∈ S ++ K, v.n = (x.addr : Int)) := by
  by_cases hk : v.k = 4
  · obtain ⟨x, hx, e⟩ := hv hk
    rw [hk, e]
    have hxO := reached_mem hx
    have hw := lit_addr x.addr (ha x hxO)
    have hsm := h.small hO
    by_cases hxS : x ∈ S
    · refine (come_in h.ls (x.addr : Int) v.s hw (List.mem_map.mpr ⟨x, hxS, rfl⟩)).mono ?_
      rintro e' w' ⟨rfl, hb⟩
      exact ⟨rfl, [], by rw [List.append_nil, List.append_nil]; exact h.same hb, fun _ => ⟨x, by rw [List.append_nil]; exact hxS, rfl⟩⟩
    · have hnot : (x.addr : Int) ∉ addrs S := fun hm => by
        obtain ⟨y, hy, e2⟩ := List.mem_map.mp hm
        have := hA y (reached_mem (h.led y hy)) x hxO (by omega)
        subst this
        exact hxS hy
      have hle := h.le
      refine (come_new h.ls (x.addr : Int) v.s hw hnot (by rw [addrs_len]; exact hsm) (by rw [addrs_len]; omega) h.below.size).mono ?_
      rintro e' w' ⟨rfl, hls, hb⟩
      refine ⟨rfl, [x], ⟨by rw [addrs_snoc, addrs_snoc]; exact hls, h.below.trans hb, ?_, fun y hy => ?_, by simp; exact hle⟩, fun _ => ⟨x, List.mem_append.mpr (Or.inr (by simp)), rfl⟩⟩
      · rw [List.nodup_append]
        refine ⟨h.nd, by simp, fun a ha' b hb' => ?_⟩
        have : b = x := by simpa using hb'
        subst this
        rintro rfl
        exact hxS ha'
      · rcases List.mem_append.mp hy with hy | hy
        · exact h.led y hy
        · have : y = x := by simpa using hy
          subst this
          exact hx
  · refine (come_no v.k v.n v.s hk).mono ?_
    rintro e' w' ⟨rfl, hb⟩
    exact ⟨rfl, [], by rw [List.append_nil, List.append_nil]; exact h.same hb, fun h2 => absurd h2 hk⟩


/-- What holds at each round over roots. -/
def RelLR (w0 : World) (vs vt sb : Nat) (O : List Ob) (src : Nat → Prop) (rs : List (Nat × Nat)) (f : Nat × Nat → Vl) (i : Nat) (wr : World) : Prop :=
  i ≤ rs.length ∧ ∃ S, LiveI w0 vs vt sb O src S S wr ∧ ∀ a ∈ rs.take i, (f a).k = 4 → ∃ x ∈ S, (f a).n = (x.addr : Int)
def InvLR (oa : Option Addr) (c : Nat) (w0 : World) (vs vt sb : Nat) (O : List Ob) (src : Nat → Prop) (rs : List (Nat × Nat)) (f : Nat × Nat → Vl) (u0 u1 u2 u3 u4 u5 u6 u8 u10 u11 u12 u13 u14 u15 u16 u17 u30 u31 u32 u33 u34 u35 u36 u37 u38 u39 u40 u41 u42 u43 u44 u45 u46 u47 u48 u49 u50 u51 u52 u53 u54 u55 u56 u57 u58 u59 u60 u61 u62 u63 u64 u65 u66 : Value) (a : Act) (wr : World) : Prop :=
  ∃ (i : Nat) (s9 s21 s22 s23 s24 s25 s26 s27 s28 s29 : Value), RelLR w0 vs vt sb O src rs f i wr ∧ a = ⟨#[u0, u1, u2, u3, u4, u5, u6, (.func (Fn.func 30) #[] #[.pointer (some ⟨vs, 0, none⟩), .pointer (some ⟨vt, 0, none⟩)]), u8, s9, u10, u11, u12, u13, u14, u15, u16, u17, (.slice oa rs.length c), (.int .i64 (rs.length : Int)), (.int .i64 (i : Int)), s21, s22, s23, s24, s25, s26, s27, s28, s29, u30, u31, u32, u33, u34, u35, u36, u37, u38, u39, u40, u41, u42, u43, u44, u45, u46, u47, u48, u49, u50, u51, u52, u53, u54, u55, u56, u57, u58, u59, u60, u61, u62, u63, u64, u65, u66], []⟩
def muLR (n : Nat) (a : Act) (_ : World) : Nat := n - (intOf (a.tmps.getD 20 undef)).toNat

set_option maxRecDepth 100000 in
set_option maxHeartbeats 1000000 in
theorem live_roots {Q : Exit → Act → World → Prop} (u0 u1 u2 u3 u4 u5 u6 u8 u9 u10 u11 u12 u13 u14 u15 u16 u17 u21 u22 u23 u24 u25 u26 u27 u28 u29 u30 u31 u32 u33 u34 u35 u36 u37 u38 u39 u40 u41 u42 u43 u44 u45 u46 u47 u48 u49 u50 u51 u52 u53 u54 u55 u56 u57 u58 u59 u60 u61 u62 u63 u64 u65 u66 : Value) (oa : Option Addr) (rb ro c : Nat) (w0 : World) (vs vt sb : Nat) (O : List Ob) (src : Nat → Prop) (rs : List (Nat × Nat)) (f : Nat × Nat → Vl) (w : World)
    (h0 : LiveI w0 vs vt sb O src [] [] w) (hO : total O < big) (hA : Apart O) (ha : ∀ o ∈ O, o.addr ≤ big) (hlen : rs.length ≤ big) (hre : ∀ (i : Nat) (a : Nat × Nat), rs[i]? = some a → oa = some ⟨rb, ro, none⟩ ∧ w0.cell? ⟨rb, ro + i, none⟩ = some (.pointer (some ⟨a.1, a.2, none⟩)))
    (hc : ∀ a ∈ rs, w0.cell? ⟨a.1, a.2, none⟩ = some (.int .i64 (f a).k) ∧ w0.cell? ⟨a.1, a.2 + 1, none⟩ = some (.int .i64 (f a).n) ∧ w0.cell? ⟨a.1, a.2 + 2, none⟩ = some (.string (f a).s)) (hv : ∀ a ∈ rs, (f a).k = 4 → ∃ o, Reached O src o ∧ (f a).n = (o.addr : Int))
    (hQ : ∀ (s9 s21 s22 s23 s24 s25 s26 s27 s28 s29 : Value) (w' : World), RelLR w0 vs vt sb O src rs f rs.length w' → Q (.exit 0) ⟨#[u0, u1, u2, u3, u4, u5, u6, (.func (Fn.func 30) #[] #[.pointer (some ⟨vs, 0, none⟩), .pointer (some ⟨vt, 0, none⟩)]), u8, s9, u10, u11, u12, u13, u14, u15, u16, u17, (.slice oa rs.length c), (.int .i64 (rs.length : Int)), (.int .i64 (rs.length : Int)), s21, s22, s23, s24, s25, s26, s27, s28, s29, u30, u31, u32, u33, u34, u35, u36, u37, u38, u39, u40, u41, u42, u43, u44, u45, u46, u47, u48, u49, u50, u51, u52, u53, u54, u55, u56, u57, u58, u59, u60, u61, u62, u63, u64, u65, u66], []⟩ w') :
    Code.wp Try.prog (Cut.piece Try.f27 (Cut.loop 5)) Q ⟨#[u0, u1, u2, u3, u4, u5, u6, (.func (Fn.func 30) #[] #[.pointer (some ⟨vs, 0, none⟩), .pointer (some ⟨vt, 0, none⟩)]), u8, u9, u10, u11, u12, u13, u14, u15, u16, u17, (.slice oa rs.length c), (.int .i64 (rs.length : Int)), (.int .i64 (0 : Int)), u21, u22, u23, u24, u25, u26, u27, u28, u29, u30, u31, u32, u33, u34, u35, u36, u37, u38, u39, u40, u41, u42, u43, u44, u45, u46, u47, u48, u49, u50, u51, u52, u53, u54, u55, u56, u57, u58, u59, u60, u61, u62, u63, u64, u65, u66], []⟩ w := by
  conv => arg 2; whnf
  refine wp_loop (InvLR oa c w0 vs vt sb O src rs f u0 u1 u2 u3 u4 u5 u6 u8 u10 u11 u12 u13 u14 u15 u16 u17 u30 u31 u32 u33 u34 u35 u36 u37 u38 u39 u40 u41 u42 u43 u44 u45 u46 u47 u48 u49 u50 u51 u52 u53 u54 u55 u56 u57 u58 u59 u60 u61 u62 u63 u64 u65 u66) (muLR rs.length) ?_ (fun a' wr hI => ?_)
  · exact ⟨0, u9, u21, u22, u23, u24, u25, u26, u27, u28, u29, ⟨Nat.zero_le _, [], h0, fun a ha => by rw [List.take_zero] at ha; cases ha⟩, rfl⟩
  obtain ⟨i, hI⟩ := hI
  obtain ⟨s9, hI⟩ := hI
  obtain ⟨s21, hI⟩ := hI
  obtain ⟨s22, hI⟩ := hI
  obtain ⟨s23, hI⟩ := hI
  obtain ⟨s24, hI⟩ := hI
  obtain ⟨s25, hI⟩ := hI
  obtain ⟨s26, hI⟩ := hI
  obtain ⟨s27, hI⟩ := hI
  obtain ⟨s28, hI⟩ := hI
  obtain ⟨s29, hI⟩ := hI
  obtain ⟨⟨hi, S, hL, hs⟩, rfl⟩ := hI
  by_cases hil : i < rs.length
  · have hil' : decide ((i : Int) < (rs.length : Int)) = true := by simpa using hil
    have hil2 : (i : Int) < (rs.length : Int) := by omega
    have hi0 : (0 : Int) ≤ (i : Int) := by omega
    obtain ⟨a, hai⟩ : ∃ a, rs[i]? = some a := ⟨_, List.getElem?_eq_getElem hil⟩
    obtain ⟨rfl, hcr⟩ := hre i a hai
    have har := List.mem_of_getElem? hai
    obtain ⟨q0, q1, q2⟩ := hc a har
    have hb := hL.below
    have r1 : wr.cell? ⟨rb, ro + i, none⟩ = some (.pointer (some ⟨a.1, a.2, none⟩)) := (hb.cell (p := ⟨rb, ro + i, none⟩) (World.block_lt_of_cell? w0 _ hcr)).trans hcr
    have r2 : wr.cell? ⟨a.1, a.2, none⟩ = some (.int .i64 (f a).k) := (hb.cell (p := ⟨a.1, a.2, none⟩) (World.block_lt_of_cell? w0 _ q0)).trans q0
    have r3 : wr.cell? ⟨a.1, a.2 + 1, none⟩ = some (.int .i64 (f a).n) := (hb.cell (p := ⟨a.1, a.2 + 1, none⟩) (World.block_lt_of_cell? w0 _ q1)).trans q1
    have r4 : wr.cell? ⟨a.1, a.2 + 2, none⟩ = some (.string (f a).s) := (hb.cell (p := ⟨a.1, a.2 + 2, none⟩) (World.block_lt_of_cell? w0 _ q2)).trans q2
    have hcall := come_any hL hO hA ha (f a) (hv a har)
    have b3 : i + 1 ≤ big := by omega
    clear hre hc hv q0 q1 q2 hcr ha hb
    have c3 : IntKind.i64.wrap ((i : Int) + 1) = (i : Int) + 1 := wrapk_two i 1 b3
    have c6 : wrap64 ((i : Int) + 1) = (i : Int) + 1 := wrap_two i 1 b3
    have A1 := Lib.hid hs
    clear hs
    go_wp2_with fail
    refine hcall.mono ?_
    rintro e w2 ⟨rfl, K, hL2, hv2⟩
    clear hcall
    have hs2 : ∀ b ∈ rs.take (i + 1), (f b).k = 4 → ∃ x ∈ S ++ K, (f b).n = (x.addr : Int) := fun b hb hk => by
      rw [List.take_add_one, hai] at hb
      rcases List.mem_append.mp hb with hb | hb
      · obtain ⟨x, hx, e⟩ := A1.out b hb hk
        exact ⟨x, List.mem_append.mpr (Or.inl hx), e⟩
      · have : b = a := by simpa using hb
        subst this
        exact hv2 hk
    have A2 := Lib.hid hs2
    clear hs2 hv2
    go_wp2_with fail
    clear c3 c6
    refine ⟨⟨i + 1, _, _, _, _, _, _, _, _, _, _, ⟨by omega, S ++ K, hL2, A2.out⟩, rfl⟩, ?_⟩
    simp [muLR, intOf]
    omega
  · have hie : i = rs.length := by omega
    subst hie
    have hil' : decide ((rs.length : Int) < (rs.length : Int)) = false := by simp
    clear hre hc hv ha
    go_wp2
    exact ⟨Nat.le_refl _, S, hL, hs⟩


theorem raw_obj {w : World} {hb nb mb : Nat} {ov rv : Value} {B : Nat} {H : HS} {nu ol : List Ob} (_h : HR w hb nb mb ov rv B H) (hi : HI H nu ol) {o : Ob} (ho : o ∈ nu ++ ol) {j : Nat} {c : HCell} (hc : (o.cells 0)[j]? = some c) : H.raw ((o.addr : Int) + (j : Int)) = some c := by
  have hj : j < o.len := by
    have := (List.getElem?_eq_some_iff.1 hc).1
    rwa [Ob.length_cells] at this
  unfold HS.raw
  rw [if_neg (by omega)]
  rcases List.mem_append.mp ho with ho | ho
  · have h1 := laid_in hi.na ho
    have h2 := hi.fit
    have h3 := hi.top
    rw [if_pos (by omega), if_pos (by omega)]
    have h4 := laid_cells hi.na ho hc
    rw [← hi.nur, Nat.sub_zero, List.getElem?_take] at h4
    have e : ((o.addr : Int) + (j : Int)).toNat = o.addr + j := by omega
    rw [e]
    split at h4
    · exact h4
    · cases h4
  · have h1 := laid_in hi.oa ho
    rw [if_neg (by omega)]
    have h4 := laid_cells hi.oa ho hc
    rw [← hi.old] at h4
    rw [show ((o.addr : Int) + (j : Int) - (H.room : Int)).toNat = o.addr - H.room + j by omega]
    exact h4
theorem head_obj {w : World} {hb nb mb : Nat} {ov rv : Value} {B : Nat} {H : HS} {nu ol : List Ob} (h : HR w hb nb mb ov rv B H) (hi : HI H nu ol) {o : Ob} (ho : o ∈ nu ++ ol) : H.head (o.addr : Int) = some (o.head 0) := by
  have h1 := raw_obj h hi ho (j := 0) (c := o.head 0) rfl
  unfold HS.head
  rw [show (o.addr : Int) + ((0 : Nat) : Int) = (o.addr : Int) by omega] at h1
  rw [h1]
  show (if o.kind = 0 then none else some (o.head 0)) = _
  rw [if_neg (hi.kinds o ho)]
theorem HR.later {w w' : World} {hb nb mb : Nat} {ov rv : Value} {B : Nat} {H : HS} (h : HR w hb nb mb ov rv B H) (hb' : Below w.heap.size w w') : HR w' hb nb mb ov rv B H := h.below hb'

/-- What holds at each round over an object's fields. -/
def RelLF (w0 : World) (vs vt sb : Nat) (O : List Ob) (src : Nat → Prop) (S0 T0 : List Ob) (x : Ob) (i : Nat) (wr : World) : Prop :=
  i ≤ x.fs.length ∧ ∃ K, LiveI w0 vs vt sb O src (S0 ++ K) (T0 ++ K) wr ∧ ∀ v ∈ x.fs.take i, v.k = 4 → ∃ y ∈ S0 ++ K, v.n = (y.addr : Int)
def InvLF (hb : Nat) (w0 : World) (vs vt sb : Nat) (O : List Ob) (src : Nat → Prop) (S0 T0 : List Ob) (x : Ob) (u1 u2 u3 u4 u5 u6 u8 u9 u10 u12 u16 u17 u18 u19 u20 u21 u22 u23 u24 u25 u26 u27 u28 u29 u30 u31 u32 u33 u34 u35 u36 u37 u38 u39 u40 u41 u42 u43 u44 u45 u46 u47 u48 u49 u50 u66 : Value) (a : Act) (wr : World) : Prop :=
  ∃ (i : Nat) (s13 s14 s15 s53 s54 s55 s56 s57 s58 s59 s60 s61 s62 s63 s64 s65 : Value), RelLF w0 vs vt sb O src S0 T0 x i wr ∧ a = ⟨#[(.pointer (some ⟨hb, 0, none⟩)), u1, u2, u3, u4, u5, u6, (.func (Fn.func 30) #[] #[.pointer (some ⟨vs, 0, none⟩), .pointer (some ⟨vt, 0, none⟩)]), u8, u9, u10, (.int .i64 (x.addr : Int)), u12, s13, s14, s15, u16, u17, u18, u19, u20, u21, u22, u23, u24, u25, u26, u27, u28, u29, u30, u31, u32, u33, u34, u35, u36, u37, u38, u39, u40, u41, u42, u43, u44, u45, u46, u47, u48, u49, u50, (.int .i64 (x.fs.length : Int)), (.int .i64 (i : Int)), s53, s54, s55, s56, s57, s58, s59, s60, s61, s62, s63, s64, s65, u66], []⟩
def muLF (n : Nat) (a : Act) (_ : World) : Nat := n - (intOf (a.tmps.getD 52 undef)).toNat

set_option maxRecDepth 100000 in
set_option maxHeartbeats 1000000 in
theorem live_fields {Q : Exit → Act → World → Prop} (u1 u2 u3 u4 u5 u6 u8 u9 u10 u12 u13 u14 u15 u16 u17 u18 u19 u20 u21 u22 u23 u24 u25 u26 u27 u28 u29 u30 u31 u32 u33 u34 u35 u36 u37 u38 u39 u40 u41 u42 u43 u44 u45 u46 u47 u48 u49 u50 u53 u54 u55 u56 u57 u58 u59 u60 u61 u62 u63 u64 u65 u66 : Value) (w0 : World) (hb nb mb : Nat) (ov rv : Value) (B : Nat) (H : HS) (nu ol : List Ob) (vs vt sb : Nat) (src : Nat → Prop) (S0 T0 : List Ob) (x : Ob) (w : World)
    (h : HR w0 hb nb mb ov rv B H) (hi : HI H nu ol) (hx : x ∈ nu ++ ol) (hxr : Reached (nu ++ ol) src x) (h0 : LiveI w0 vs vt sb (nu ++ ol) src S0 T0 w) (hO : total (nu ++ ol) < big) (ha : ∀ o ∈ nu ++ ol, o.addr + o.len ≤ big)
    (hQ : ∀ (s13 s14 s15 s53 s54 s55 s56 s57 s58 s59 s60 s61 s62 s63 s64 s65 : Value) (w' : World), RelLF w0 vs vt sb (nu ++ ol) src S0 T0 x x.fs.length w' → Q (.exit 4) ⟨#[(.pointer (some ⟨hb, 0, none⟩)), u1, u2, u3, u4, u5, u6, (.func (Fn.func 30) #[] #[.pointer (some ⟨vs, 0, none⟩), .pointer (some ⟨vt, 0, none⟩)]), u8, u9, u10, (.int .i64 (x.addr : Int)), u12, s13, s14, s15, u16, u17, u18, u19, u20, u21, u22, u23, u24, u25, u26, u27, u28, u29, u30, u31, u32, u33, u34, u35, u36, u37, u38, u39, u40, u41, u42, u43, u44, u45, u46, u47, u48, u49, u50, (.int .i64 (x.fs.length : Int)), (.int .i64 (x.fs.length : Int)), s53, s54, s55, s56, s57, s58, s59, s60, s61, s62, s63, s64, s65, u66], []⟩ w') :
    Code.wp Try.prog (Cut.piece Try.f27 (Cut.loop 16)) Q ⟨#[(.pointer (some ⟨hb, 0, none⟩)), u1, u2, u3, u4, u5, u6, (.func (Fn.func 30) #[] #[.pointer (some ⟨vs, 0, none⟩), .pointer (some ⟨vt, 0, none⟩)]), u8, u9, u10, (.int .i64 (x.addr : Int)), u12, u13, u14, u15, u16, u17, u18, u19, u20, u21, u22, u23, u24, u25, u26, u27, u28, u29, u30, u31, u32, u33, u34, u35, u36, u37, u38, u39, u40, u41, u42, u43, u44, u45, u46, u47, u48, u49, u50, (.int .i64 (x.fs.length : Int)), (.int .i64 (0 : Int)), u53, u54, u55, u56, u57, u58, u59, u60, u61, u62, u63, u64, u65, u66], []⟩ w := by
  conv => arg 2; whnf
  refine wp_loop (InvLF hb w0 vs vt sb (nu ++ ol) src S0 T0 x u1 u2 u3 u4 u5 u6 u8 u9 u10 u12 u16 u17 u18 u19 u20 u21 u22 u23 u24 u25 u26 u27 u28 u29 u30 u31 u32 u33 u34 u35 u36 u37 u38 u39 u40 u41 u42 u43 u44 u45 u46 u47 u48 u49 u50 u66) (muLF x.fs.length) ?_ (fun a' wr hI => ?_)
  · exact ⟨0, u13, u14, u15, u53, u54, u55, u56, u57, u58, u59, u60, u61, u62, u63, u64, u65, ⟨Nat.zero_le _, [], by rw [List.append_nil, List.append_nil]; exact h0, fun v hv => by rw [List.take_zero] at hv; cases hv⟩, rfl⟩
  obtain ⟨i, hI⟩ := hI
  obtain ⟨s13, hI⟩ := hI
  obtain ⟨s14, hI⟩ := hI
  obtain ⟨s15, hI⟩ := hI
  obtain ⟨s53, hI⟩ := hI
  obtain ⟨s54, hI⟩ := hI
  obtain ⟨s55, hI⟩ := hI
  obtain ⟨s56, hI⟩ := hI
  obtain ⟨s57, hI⟩ := hI
  obtain ⟨s58, hI⟩ := hI
  obtain ⟨s59, hI⟩ := hI
  obtain ⟨s60, hI⟩ := hI
  obtain ⟨s61, hI⟩ := hI
  obtain ⟨s62, hI⟩ := hI
  obtain ⟨s63, hI⟩ := hI
  obtain ⟨s64, hI⟩ := hI
  obtain ⟨s65, hI⟩ := hI
  obtain ⟨⟨hi', K, hL, hs⟩, rfl⟩ := hI
  by_cases hil : i < x.fs.length
  · have hil' : decide ((i : Int) < (x.fs.length : Int)) = true := by simpa using hil
    have hil2 : (i : Int) < (x.fs.length : Int) := by omega
    have hi0 : (0 : Int) ≤ (i : Int) := by omega
    obtain ⟨v, hv⟩ : ∃ v, x.fs[i]? = some v := ⟨_, List.getElem?_eq_getElem hil⟩
    have hvm := List.mem_of_getElem? hv
    have hr := h.below hL.below
    have hxa := ha x hx
    have hcell : (x.cells 0)[1 + i]? = some v.cell := by
      rw [show 1 + i = i + 1 by omega]
      show (x.fs.map Vl.cell)[i]? = _
      rw [List.getElem?_map, hv]
      rfl
    have hraw := raw_obj hr hi hx hcell
    have e1 : (x.addr : Int) + ((1 + i : Nat) : Int) = (x.addr : Int) + 1 + (i : Int) := by omega
    rw [e1] at hraw
    have hlen : x.len = 1 + x.fs.length := rfl
    have hbig := big_lt
    have hget := get_ok hr (x.addr : Int) (i : Int) (by omega) (by omega) (x.head 0) v.cell (head_obj hr hi hx) hi0 hil2 hraw
    have hget' : Calls Try.prog 15 #[.pointer (some ⟨hb, 0, none⟩), .int .i64 (x.addr : Int), .int .i64 (i : Int)] wr fun e w' => e = .returned (.tuple #[.agg #[.int .i64 v.k, .int .i64 v.n, .string v.s], .nilIface]) ∧ Below wr.heap.size wr w' := hget
    have hval : v.k = 4 → ∃ o, Reached (nu ++ ol) src o ∧ v.n = (o.addr : Int) := fun hk => by
      obtain ⟨y, hy, e⟩ := hi.refs x hx v hvm hk
      exact ⟨y, .step hxr hvm hk e hy, e⟩
    have b3 : i + 1 ≤ big := by omega
    clear hget hraw e1 hcell hlen hbig
    have c3 : IntKind.i64.wrap ((i : Int) + 1) = (i : Int) + 1 := wrapk_two i 1 b3
    have c6 : wrap64 ((i : Int) + 1) = (i : Int) + 1 := wrap_two i 1 b3
    have A1 := Lib.hid hs
    have A3 := Lib.hid hval
    clear hs hval
    go_wp2_with fail
    refine hget'.mono ?_
    rintro e w2 ⟨rfl, hb2⟩
    clear hget'
    go_wp2_with fail
    have hL2 := (hL.same hb2).same ((Below.refl w2.heap.size w2).alloc (Nat.le_refl _) (.cells #[.int .i64 v.k, .int .i64 v.n, .string v.s] 34 (0, 0)))
    refine (come_any hL2 hO hi.apart (fun o ho => by have := ha o ho; omega) v A3.out).mono ?_
    rintro e w3 ⟨rfl, K3, hL3, hv3⟩
    have hs3 : ∀ b ∈ x.fs.take (i + 1), b.k = 4 → ∃ y ∈ S0 ++ (K ++ K3), b.n = (y.addr : Int) := fun b hb hk => by
      rw [← List.append_assoc]
      rw [List.take_add_one, hv] at hb
      rcases List.mem_append.mp hb with hb | hb
      · obtain ⟨y, hy, e⟩ := A1.out b hb hk
        exact ⟨y, List.mem_append.mpr (Or.inl hy), e⟩
      · have : b = v := by simpa using hb
        subst this
        exact hv3 hk
    have A2 := Lib.hid hs3
    clear hs3 hv3
    rw [List.append_assoc, List.append_assoc] at hL3
    go_wp2_with fail
    clear c3 c6
    refine ⟨⟨i + 1, _, _, _, _, _, _, _, _, _, _, _, _, _, _, _, _, ⟨by omega, K ++ K3, hL3, A2.out⟩, rfl⟩, ?_⟩
    simp [muLF, intOf]
    omega
  · have hie : i = x.fs.length := by omega
    subst hie
    have hil' : decide ((x.fs.length : Int) < (x.fs.length : Int)) = false := by simp
    go_wp2
    exact ⟨Nat.le_refl _, K, hL, hs⟩

end Go.Proofs.Ythbkklnahhdgcaa.ChW
