/-
  rewindkeep's shape: its loop, and the region that begins what it writes, by themselves.
-/
import Derived.Test.YthbkklnahhdgcaaMChZ
import Derived.Test.YthbkklnahhdgcaaMChTa
namespace Go.Proofs.Ythbkklnahhdgcaa.ChTb
open Go Go.Proofs Go.RowKit Go.Maps Go.Proofs.Ythbkklnahhdgcaa.Lib Go.Proofs.Ythbkklnahhdgcaa.HeapR Go.Proofs.Ythbkklnahhdgcaa.HeapC Go.Proofs.Ythbkklnahhdgcaa.HeapD Go.Proofs.Ythbkklnahhdgcaa.ChA Go.Proofs.Ythbkklnahhdgcaa.ChT Go.Proofs.Ythbkklnahhdgcaa.ChTa Go.Proofs.Ythbkklnahhdgcaa.ChCa Go.Proofs.Ythbkklnahhdgcaa.ChCc Go.Proofs.Ythbkklnahhdgcaa.ChE Go.Proofs.Ythbkklnahhdgcaa.ChH Go.Proofs.Ythbkklnahhdgcaa.ChI Go.Proofs.Ythbkklnahhdgcaa.ChK Go.Proofs.Ythbkklnahhdgcaa.ChL Go.Proofs.Ythbkklnahhdgcaa.ChN Go.Proofs.Ythbkklnahhdgcaa.ChR Go.Proofs.Ythbkklnahhdgcaa.ChV Go.Proofs.Ythbkklnahhdgcaa.ChW Go.Proofs.Ythbkklnahhdgcaa.ChZ

/-- The set of what was seen. -/
def Sh (w : World) (sb : Nat) (seen : List Int) : Prop := ∃ D, w.ownsMap Try.prog 3 (plainElem Try.prog 4) sb seen.length D ∧ ReadsB D (fun a => decide (a ∈ seen))
theorem Sh.same {w w' : World} {sb : Nat} {seen : List Int} (h : Sh w sb seen) (e : w'.heap[sb]? = w.heap[sb]?) : Sh w' sb seen := by
  obtain ⟨D, h1, h2⟩ := h
  exact ⟨D, HeapF.ownsMap_same h1 e, h2⟩
theorem Sh.lt {w : World} {sb : Nat} {seen : List Int} (h : Sh w sb seen) : sb < w.heap.size := by
  obtain ⟨D, h1, _⟩ := h
  exact h1.lt
/-- What shape says, so many objects deep. -/
def Says (hb nb mb : Nat) (ov rv : Value) (B : Nat) (H : HS) (nu ol : List Ob) (sb f : Nat) : Prop :=
  ∀ (v : Vl) (seen out seen' : List Int) (w : World), HR w hb nb mb ov rv B H → Sh w sb seen → seen.length + unseen (nu ++ ol) seen ≤ big → shp (nu ++ ol) f v seen = some (out, seen') → out.length ≤ big → (v.k = 4 → ∃ x ∈ nu ++ ol, v.n = (x.addr : Int)) →
    Calls Try.prog 10 #[.pointer (some ⟨hb, 0, none⟩), .agg #[.int .i64 v.k, .int .i64 v.n, .string v.s], .map (some sb)] w fun e w' => ∃ o c, e = .returned (.slice o out.length c) ∧ w'.ownsRow w.heap.size 3 1 (.slice o out.length c) out.length (out.map (Value.int .i64)) ∧ Sh w' sb seen' ∧ Turned (fun k => k = sb) w w' ∧ seen'.length + unseen (nu ++ ol) seen' ≤ big

set_option maxRecDepth 100000 in
set_option maxHeartbeats 1000000 in
theorem shape_head {Q : Exit → Act → World → Prop} (u1 u2 u3 u5 u6 u8 u9 u10 u11 u12 u13 u14 u15 u16 u17 u18 u19 u20 u21 u22 u23 u24 u25 u26 u27 u28 u29 u30 u31 u32 u33 u34 u35 u36 u37 u38 u39 u40 u41 u42 u43 u44 u45 u46 u47 u48 u49 u50 u51 u52 u53 u54 u55 u56 u57 u58 u59 u60 u61 u62 u63 u64 u65 u66 u67 u68 u69 u70 u71 : Value) {w : World} {hb nb mb : Nat} {ov rv : Value} {B : Nat} {H : HS} {nu ol : List Ob} (vb : Nat) (x : Ob) (h : HR w hb nb mb ov rv B H) (hi : HI H nu ol) (hx : x ∈ nu ++ ol) (hxa : x.addr ≤ big)
    (q1 : w.cell? ⟨vb, 1, none⟩ = some (.int .i64 (x.addr : Int)))
    (hQ : ∀ (s35 s36 s37 s38 s39 s40 s41 s42 s43 s44 s45 s46 s47 s48 : Value) (o : Option Addr) (c : Nat) (w' : World), w'.ownsRow w.heap.size 3 1 (.slice o 4 c) 4 ([x.id, x.kind, x.tag, (x.fs.length : Int)].map (Value.int .i64)) → Below w.heap.size w w' → Q .normal ⟨#[(.pointer (some ⟨hb, 0, none⟩)), u1, u2, u3, (.pointer (some ⟨vb, 0, none⟩)), u5, u6, (.int .i64 x.id), (.slice o 4 c), u9, u10, u11, u12, u13, u14, u15, u16, u17, u18, u19, u20, u21, u22, u23, u24, u25, u26, u27, u28, u29, u30, u31, u32, u33, u34, s35, s36, s37, s38, s39, s40, s41, s42, s43, s44, s45, s46, s47, s48, u49, u50, u51, u52, u53, u54, u55, u56, u57, u58, u59, u60, u61, u62, u63, u64, u65, u66, u67, u68, u69, u70, u71], []⟩ w') :
    Code.wp Try.prog (Cut.piece Try.f10 (Cut.region 7)) Q ⟨#[(.pointer (some ⟨hb, 0, none⟩)), u1, u2, u3, (.pointer (some ⟨vb, 0, none⟩)), u5, u6, (.int .i64 x.id), u8, u9, u10, u11, u12, u13, u14, u15, u16, u17, u18, u19, u20, u21, u22, u23, u24, u25, u26, u27, u28, u29, u30, u31, u32, u33, u34, u35, u36, u37, u38, u39, u40, u41, u42, u43, u44, u45, u46, u47, u48, u49, u50, u51, u52, u53, u54, u55, u56, u57, u58, u59, u60, u61, u62, u63, u64, u65, u66, u67, u68, u69, u70, u71], []⟩ w := by
  have hbig := big_lt
  have hk := fun {w1 : World} (h1 : HR w1 hb nb mb ov rv B H) => Kind_yes h1 (x.addr : Int) (by omega) (x.head 0) (head_obj h1 hi hx)
  have ht := fun {w1 : World} (h1 : HR w1 hb nb mb ov rv B H) => Tag_yes h1 (x.addr : Int) (by omega) (x.head 0) (head_obj h1 hi hx)
  have hs := fun {w1 : World} (h1 : HR w1 hb nb mb ov rv B H) => Size_yes h1 (x.addr : Int) (by omega) (x.head 0) (head_obj h1 hi hx)
  have hvl := World.block_lt_of_cell? w _ q1
  clear hbig
  conv => arg 2; whnf
  refine wp_region_noPanic ?_
  refine RegT.begin (S := fun wz => wz.cell? ⟨vb, 1, none⟩ = some (.int .i64 (x.addr : Int)) ∧ HR wz hb nb mb ov rv B H ∧ Below w.heap.size w wz) (L := 14) (by kernel_rfl) ⟨q1, h.same (fun _ _ => rfl), (Below.refl _ w).drew⟩ (fun hHeld => ?_)
  refine RegT.take (i := 0) (v := ?_) rfl (by kernel_rfl) (by kernel_rfl) (by kernel_rfl) (by kernel_rfl) (fun _ _ _ h => h) (Or.inl ⟨by rfl, ?_⟩) (by assumption) ?_
  rotate_left
  · intro w hSw; (try dsimp only at hSw); go_simp; first | done | with_reducible rfl
  try simp only [Act.put, List.setIfInBounds_toArray, List.set_cons_zero, List.set_cons_succ]
  refine RegT.take (i := 1) (v := ?_) rfl (by kernel_rfl) (by kernel_rfl) (by kernel_rfl) (by kernel_rfl) (fun _ _ _ h => h) (Or.inl ⟨by rfl, ?_⟩) (by assumption) ?_
  rotate_left
  · intro w hSw; (try dsimp only at hSw); go_simp; first | done | with_reducible rfl
  try simp only [Act.put, List.setIfInBounds_toArray, List.set_cons_zero, List.set_cons_succ]
  refine RegT.take (i := 2) (v := ?_) rfl (by kernel_rfl) (by kernel_rfl) (by kernel_rfl) (by kernel_rfl) (fun _ _ _ h => h) (Or.inl ⟨by rfl, ?_⟩) (by assumption) ?_
  rotate_left
  · intro w hSw; (try dsimp only at hSw); go_simp; first | done | with_reducible rfl
  try simp only [Act.put, List.setIfInBounds_toArray, List.set_cons_zero, List.set_cons_succ]
  refine RegT.take (i := 3) (v := ?_) rfl (by kernel_rfl) (by kernel_rfl) (by kernel_rfl) (by kernel_rfl) (fun _ _ _ h => h) (Or.inl ⟨by rfl, ?_⟩) (by assumption) ?_
  rotate_left
  · intro w hSw; (try dsimp only at hSw); go_simp; first | done | with_reducible rfl
  try simp only [Act.put, List.setIfInBounds_toArray, List.set_cons_zero, List.set_cons_succ]
  refine RegT.take (i := 5) (v := ?_) rfl (by kernel_rfl) (by kernel_rfl) (by kernel_rfl) (by kernel_rfl) (fun _ _ _ h => h) (Or.inl ⟨by rfl, ?_⟩) (by assumption) ?_
  rotate_left
  · intro w hSw; (try dsimp only at hSw); go_simp; first | done | with_reducible rfl
  try simp only [Act.put, List.setIfInBounds_toArray, List.set_cons_zero, List.set_cons_succ]
  refine RegT.take (i := 6) (v := ?_) rfl (by kernel_rfl) (by kernel_rfl) (by kernel_rfl) (by kernel_rfl) (fun _ _ _ h => h) (Or.inl ⟨by rfl, ?_⟩) (by assumption) ?_
  rotate_left
  · intro w hSw; (try dsimp only at hSw); go_simp; first | done | with_reducible rfl
  try simp only [Act.put, List.setIfInBounds_toArray, List.set_cons_zero, List.set_cons_succ]
  refine RegT.take (i := 7) (v := ?_) rfl (by kernel_rfl) (by kernel_rfl) (by kernel_rfl) (by kernel_rfl) (fun _ _ _ h => h) (Or.inl ⟨by rfl, ?_⟩) (by assumption) ?_
  rotate_left
  · intro w hSw; (try dsimp only at hSw); go_simp; first | done | with_reducible rfl
  try simp only [Act.put, List.setIfInBounds_toArray, List.set_cons_zero, List.set_cons_succ]
  refine RegT.take (i := 9) (v := ?_) rfl (by kernel_rfl) (by kernel_rfl) (by kernel_rfl) (by kernel_rfl) (fun _ _ _ h => h) (Or.inl ⟨by rfl, ?_⟩) (by assumption) ?_
  rotate_left
  · intro w hSw; (try dsimp only at hSw); go_simp; first | done | with_reducible rfl
  try simp only [Act.put, List.setIfInBounds_toArray, List.set_cons_zero, List.set_cons_succ]
  refine RegT.take (i := 10) (v := ?_) rfl (by kernel_rfl) (by kernel_rfl) (by kernel_rfl) (by kernel_rfl) (fun _ _ _ h => h) (Or.inl ⟨by rfl, ?_⟩) (by assumption) ?_
  rotate_left
  · intro w hSw; (try dsimp only at hSw); go_simp; first | done | with_reducible rfl
  try simp only [Act.put, List.setIfInBounds_toArray, List.set_cons_zero, List.set_cons_succ]
  refine RegT.take (i := 11) (v := ?_) rfl (by kernel_rfl) (by kernel_rfl) (by kernel_rfl) (by kernel_rfl) (fun _ _ _ h => h) (Or.inl ⟨by rfl, ?_⟩) (by assumption) ?_
  rotate_left
  · intro w hSw; (try dsimp only at hSw); go_simp; first | done | with_reducible rfl
  try simp only [Act.put, List.setIfInBounds_toArray, List.set_cons_zero, List.set_cons_succ]
  refine RegT.one (i := 4) (by kernel_rfl) rfl (fun K hK => ?_)
  go_simp
  refine (hk hHeld.2.1).mono ?_
  rintro e w4 ⟨rfl, hb4⟩
  have g4 : Below w.heap.size w w4 := hHeld.2.2.trans (hb4.mono hHeld.2.2.size)
  refine hK.out _ _ ⟨(g4.cell (p := ⟨vb, 1, none⟩) hvl).trans q1, h.below g4, g4⟩ (fun hHeld => ?_)
  clear hK K
  try simp only [Act.put, List.setIfInBounds_toArray, List.set_cons_zero, List.set_cons_succ]
  refine RegT.one (i := 8) (by kernel_rfl) rfl (fun K hK => ?_)
  go_simp
  refine (ht hHeld.2.1).mono ?_
  rintro e w8 ⟨rfl, hb8⟩
  have g8 : Below w.heap.size w w8 := hHeld.2.2.trans (hb8.mono hHeld.2.2.size)
  refine hK.out _ _ ⟨(g8.cell (p := ⟨vb, 1, none⟩) hvl).trans q1, h.below g8, g8⟩ (fun hHeld => ?_)
  clear hK K
  try simp only [Act.put, List.setIfInBounds_toArray, List.set_cons_zero, List.set_cons_succ]
  refine RegT.one (i := 12) (by kernel_rfl) rfl (fun K hK => ?_)
  go_simp
  refine (hs hHeld.2.1).mono ?_
  rintro e w12 ⟨rfl, hb12⟩
  have g12 : Below w.heap.size w w12 := hHeld.2.2.trans (hb12.mono hHeld.2.2.size)
  refine hK.out _ _ ⟨(g12.cell (p := ⟨vb, 1, none⟩) hvl).trans q1, h.below g12, g12⟩ (fun hHeld => ?_)
  clear hK K
  try simp only [Act.put, List.setIfInBounds_toArray, List.set_cons_zero, List.set_cons_succ]
  refine RegT.one (i := 13) (by kernel_rfl) rfl (fun K hK => ?_)
  go_simp
  have g13 := hHeld.2.2.alloc hHeld.2.2.size (.cells #[.int .i64 x.id, .int .i64 x.kind, .int .i64 x.tag, .int .i64 (x.fs.length : Int)] 3 (0, 0))
  have hsz := hHeld.2.2.size
  refine hK.out _ _ ⟨(g13.cell (p := ⟨vb, 1, none⟩) hvl).trans q1, h.below g13, g13⟩ (fun hHeld => ?_)
  clear hK K
  try simp only [Act.put, List.setIfInBounds_toArray, List.set_cons_zero, List.set_cons_succ]
  refine RegT.last (by kernel_rfl) rfl (by kernel_rfl) (fun K hK => ?_)
  go_simp
  refine hK.out _ _ ?_
  clear hK K
  try simp only [Act.put, List.setIfInBounds_toArray, List.set_cons_zero, List.set_cons_succ]
  refine hQ _ _ _ _ _ _ _ _ _ _ _ _ _ _ _ _ _ (World.ownsRow_lit (size := 1) w12 _ 4 hsz (by decide) rfl) hHeld.2.2
end Go.Proofs.Ythbkklnahhdgcaa.ChTb
