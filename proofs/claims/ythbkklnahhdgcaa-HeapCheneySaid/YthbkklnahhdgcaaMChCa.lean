/-
  Package heap's collector: the region of move that copies one cell, by itself.
-/
import Derived.Test.YthbkklnahhdgcaaMChB
import Derived.Test.YthbkklnahhdgcaaMMB
import Derived.Test.YthbkklnahhdgcaaMRegT
import Derived.Test.YthbkklnahhdgcaaMCut
import Derived.Deep.AppendLies
import Derived.LoopTactic
import Derived.Deep.LoopGhost
namespace Go.Proofs.Ythbkklnahhdgcaa.ChCa
open Go Go.Proofs Go.RowKit Lib HeapR HeapA HeapB HeapF ChA ChB

/-- More cells than any heap has. -/
def big : Nat := 4000000
theorem wrap_two (a b : Nat) (h : a + b ≤ big) : wrap64 ((a : Int) + (b : Int)) = (a : Int) + (b : Int) := by
  unfold big at h
  unfold wrap64
  omega
theorem wrapk_two (a b : Nat) (h : a + b ≤ big) : IntKind.i64.wrap ((a : Int) + (b : Int)) = (a : Int) + (b : Int) := by
  unfold big at h
  exact IntWalk.i64_in _ (by omega)
theorem max_of (n : Nat) (h : n ≤ big) : n ≤ maxLen := by
  unfold big at h
  unfold maxLen
  omega
theorem bytes_of (n : Nat) (h : n ≤ big) : n * 72 ≤ 140737488355328 := by
  unfold big at h
  omega
theorem own_slice {w : World} {base e size : Nat} {v : Value} {n : Nat} {xs : List Value} (h : w.ownsRow base e size v n xs) : ∃ o c, v = .slice o n c := by
  rcases h.2 with ⟨rfl, h0⟩ | ⟨g, cap, cur, rfl, _⟩
  · exact ⟨none, 0, by rw [h0]⟩
  · exact ⟨_, _, rfl⟩
theorem own_lt {w : World} {base e size : Nat} {v : Value} {n : Nat} {xs : List Value} (h : w.ownsRow base e size v n xs) {k : Nat} (hk : v.ownBlock = some k) : base ≤ k ∧ k < w.heap.size := World.ownsRow.lt h k hk
theorem alloc_cell {w : World} {b o : Nat} {v : Value} (h : w.cell? ⟨b, o, none⟩ = some v) (ob : Obj) : (w.alloc ob).cell? ⟨b, o, none⟩ = some v :=
  (Below.cell (B := w.heap.size) (p := ⟨b, o, none⟩) ((Below.refl _ w).alloc (Nat.le_refl _) ob) (World.block_lt_of_cell? w _ h)).trans h
theorem heap_alloc_at {w : World} {n : Nat} (h : w.heap.size = n) (o : Obj) : (w.alloc o).heap[n]? = some o := by
  subst h
  show (w.heap.push o)[w.heap.size]? = _
  simp
theorem heap_alloc_last (w : World) (o : Obj) : (w.alloc o).heap[w.heap.size]? = some o := by
  show (w.heap.push o)[w.heap.size]? = _
  simp
/-- The collector's block. -/
def kblk (hb : Nat) (tv fv mv : Value) : Obj := .cells #[.pointer (some ⟨hb, 0, none⟩), tv, fv, mv] 65 (0, 0)

set_option maxRecDepth 100000 in
set_option maxHeartbeats 1000000 in
theorem copy_region {Q : Exit → Act → World → Prop} (u2 u3 u4 u5 u7 u8 u9 u10 u11 u12 u13 u14 u15 u16 u17 u18 u19 u20 u21 u22 u23 u24 u25 u26 u27 u28 u29 u30 u31 u32 u33 u34 u35 u36 u37 u38 u39 u40 u41 u42 u43 u44 u45 u46 u47 u48 u49 u50 u51 u52 u53 u54 u55 u56 u57 u58 u59 u60 u61 u62 u63 u64 u65 u66 u67 u68 u69 u70 u71 u72 u73 u74 u75 u76 u77 u78 u79 u80 u81 u82 u83 u84 u85 u86 u87 u88 u89 u90 u91 u92 u93 u94 u95 u96 u97 u98 u99 u100 u101 u102 u103 u104 u105 u106 u107 u108 u109 u110 u111 : Value) (kb hb xb yo vb vo B : Nat) (a i : Nat) (o : Option Addr) (n c : Nat) (fv mv : Value) (X : Array Value) (x : HCell) (xs : List Value) (w : World)
    (hkb : w.heap[kb]? = some (kblk hb (.slice o n c) fv mv)) (v1 : w.cell? ⟨vb, vo + 1, none⟩ = some (.int .i64 (a : Int)))
    (hX : w.heap[xb]? = some (.cells X 55 (0, 0))) (hx : ∀ (j : Nat) (v : Value), x.vals[j]? = some v → X[yo + j]? = some v)
    (hcall : Calls Try.prog 19 #[.pointer (some ⟨hb, 0, none⟩), .int .i64 ((a : Int) + (i : Int))] w.drew fun e w' => e = .returned (.pointer (some ⟨xb, yo, none⟩)) ∧ ∃ k, w' = w.drew.drewN k)
    (hrow : w.ownsRow B 55 8 (.slice o n c) n xs) (hB : B ≤ w.heap.size) (t1 : (Value.slice o n c).ownBlock ≠ some kb) (t4 : (Value.slice o n c).ownBlock ≠ some vb) (hnb : n + 1 ≤ big) (hab : a + i ≤ big)
    (hp : ∀ (c : List PanicEntry) (a : Act) (d : Tmp) (v : Value) (w : World), Q (.panic c) (a.put (some d) v) w → Q (.panic c) a w)
    (hQ : ∀ (s60 s61 s62 s63 s64 s65 s66 s67 s68 s69 s70 s71 s72 s73 s74 s75 s76 s77 s78 s79 s80 s81 : Value) (g cap : Nat) (w' : World), w'.heap[kb]? = some (kblk hb (.slice (some ⟨g, 0, none⟩) (n + 1) cap) fv mv) → w'.ownsRow B 55 8 (.slice (some ⟨g, 0, none⟩) (n + 1) cap) (n + 1) (xs ++ x.vals) → Turned (fun k => k = kb ∨ (Value.slice o n c).ownBlock = some k) w w' → ((Value.slice o n c).ownBlock = some g ∨ w.heap.size ≤ g) →
      Q .normal ⟨#[(.pointer (some ⟨kb, 0, none⟩)), (.pointer (some ⟨vb, vo, none⟩)), u2, u3, u4, u5, (.int .i64 (i : Int)), u7, u8, u9, u10, u11, u12, u13, u14, u15, u16, u17, u18, u19, u20, u21, u22, u23, u24, u25, u26, u27, u28, u29, u30, u31, u32, u33, u34, u35, u36, u37, u38, u39, u40, u41, u42, u43, u44, u45, u46, u47, u48, u49, u50, u51, u52, u53, u54, u55, u56, u57, u58, u59, s60, s61, s62, s63, s64, s65, s66, s67, s68, s69, s70, s71, s72, s73, s74, s75, s76, s77, s78, s79, s80, s81, u82, u83, u84, u85, u86, u87, u88, u89, u90, u91, u92, u93, u94, u95, u96, u97, u98, u99, u100, u101, u102, u103, u104, u105, u106, u107, u108, u109, u110, u111], []⟩ w') :
    Code.wp Try.prog (Cut.piece Try.f23 (Cut.region 7)) Q ⟨#[(.pointer (some ⟨kb, 0, none⟩)), (.pointer (some ⟨vb, vo, none⟩)), u2, u3, u4, u5, (.int .i64 (i : Int)), u7, u8, u9, u10, u11, u12, u13, u14, u15, u16, u17, u18, u19, u20, u21, u22, u23, u24, u25, u26, u27, u28, u29, u30, u31, u32, u33, u34, u35, u36, u37, u38, u39, u40, u41, u42, u43, u44, u45, u46, u47, u48, u49, u50, u51, u52, u53, u54, u55, u56, u57, u58, u59, u60, u61, u62, u63, u64, u65, u66, u67, u68, u69, u70, u71, u72, u73, u74, u75, u76, u77, u78, u79, u80, u81, u82, u83, u84, u85, u86, u87, u88, u89, u90, u91, u92, u93, u94, u95, u96, u97, u98, u99, u100, u101, u102, u103, u104, u105, u106, u107, u108, u109, u110, u111], []⟩ w := by
  have hsum : IntKind.i64.wrap ((a : Int) + (i : Int)) = (a : Int) + (i : Int) := wrapk_two a i hab
  have hml := max_of _ hnb
  have hbt := bytes_of _ hnb
  have k0 : w.cell? ⟨kb, 0, none⟩ = some (.pointer (some ⟨hb, 0, none⟩)) := cell_of_block hkb rfl
  have k1 : w.cell? ⟨kb, 1, none⟩ = some (.slice o n c) := cell_of_block hkb rfl
  obtain ⟨iC, hiC, hzC0, hzC1, hzC2⟩ := info_parts infoCell
  clear hnb hab
  have hXl := lt_of_block hX
  have hkl := lt_of_block hkb
  have hvl : vb < w.heap.size := World.block_lt_of_cell? w _ v1
  conv => arg 2; whnf
  refine RegT.begin (S := fun wz => wz.cell? ⟨kb, 0, none⟩ = some (.pointer (some ⟨hb, 0, none⟩)) ∧ wz.cell? ⟨kb, 1, none⟩ = some (.slice o n c) ∧ wz.cell? ⟨vb, vo + 1, none⟩ = some (.int .i64 (a : Int))) (L := 22) (by kernel_rfl) ⟨k0, k1, v1⟩ (fun hHeld => ?_)
  refine RegT.take (i := 0) (v := ?_) rfl (by kernel_rfl) (by kernel_rfl) (by kernel_rfl) (by kernel_rfl) (fun c a w h => hp c a _ _ w h) (Or.inl ⟨by rfl, ?_⟩) (by assumption) ?_
  rotate_left
  · intro w hSw; (try dsimp only at hSw); go_simp; first | done | with_reducible rfl
  try simp only [Act.put, List.setIfInBounds_toArray, List.set_cons_zero, List.set_cons_succ]
  refine RegT.take (i := 1) (v := ?_) rfl (by kernel_rfl) (by kernel_rfl) (by kernel_rfl) (by kernel_rfl) (fun c a w h => hp c a _ _ w h) (Or.inl ⟨by rfl, ?_⟩) (by assumption) ?_
  rotate_left
  · intro w hSw; (try dsimp only at hSw); go_simp; first | done | with_reducible rfl
  try simp only [Act.put, List.setIfInBounds_toArray, List.set_cons_zero, List.set_cons_succ]
  refine RegT.take (i := 2) (v := ?_) rfl (by kernel_rfl) (by kernel_rfl) (by kernel_rfl) (by kernel_rfl) (fun c a w h => hp c a _ _ w h) (Or.inl ⟨by rfl, ?_⟩) (by assumption) ?_
  rotate_left
  · intro w hSw; (try dsimp only at hSw); go_simp; first | done | with_reducible rfl
  try simp only [Act.put, List.setIfInBounds_toArray, List.set_cons_zero, List.set_cons_succ]
  refine RegT.take (i := 3) (v := ?_) rfl (by kernel_rfl) (by kernel_rfl) (by kernel_rfl) (by kernel_rfl) (fun c a w h => hp c a _ _ w h) (Or.inl ⟨by rfl, ?_⟩) (by assumption) ?_
  rotate_left
  · intro w hSw; (try dsimp only at hSw); go_simp; first | done | with_reducible rfl
  try simp only [Act.put, List.setIfInBounds_toArray, List.set_cons_zero, List.set_cons_succ]
  refine RegT.take (i := 4) (v := ?_) rfl (by kernel_rfl) (by kernel_rfl) (by kernel_rfl) (by kernel_rfl) (fun c a w h => hp c a _ _ w h) (Or.inl ⟨by rfl, ?_⟩) (by assumption) ?_
  rotate_left
  · intro w hSw; (try dsimp only at hSw); go_simp; first | done | with_reducible rfl
  try simp only [Act.put, List.setIfInBounds_toArray, List.set_cons_zero, List.set_cons_succ]
  refine RegT.take (i := 5) (v := ?_) rfl (by kernel_rfl) (by kernel_rfl) (by kernel_rfl) (by kernel_rfl) (fun c a w h => hp c a _ _ w h) (Or.inl ⟨by rfl, ?_⟩) (by assumption) ?_
  rotate_left
  · intro w hSw; (try dsimp only at hSw); go_simp; first | done | with_reducible rfl
  try simp only [Act.put, List.setIfInBounds_toArray, List.set_cons_zero, List.set_cons_succ]
  refine RegT.take (i := 6) (v := ?_) rfl (by kernel_rfl) (by kernel_rfl) (by kernel_rfl) (by kernel_rfl) (fun c a w h => hp c a _ _ w h) (Or.inl ⟨by rfl, ?_⟩) (by assumption) ?_
  rotate_left
  · intro w hSw; (try dsimp only at hSw); go_simp; first | done | with_reducible rfl
  try simp only [Act.put, List.setIfInBounds_toArray, List.set_cons_zero, List.set_cons_succ]
  refine RegT.take (i := 7) (v := ?_) rfl (by kernel_rfl) (by kernel_rfl) (by kernel_rfl) (by kernel_rfl) (fun c a w h => hp c a _ _ w h) (Or.inl ⟨by rfl, ?_⟩) (by assumption) ?_
  rotate_left
  · intro w hSw; (try dsimp only at hSw); go_simp; first | done | with_reducible rfl
  try simp only [Act.put, List.setIfInBounds_toArray, List.set_cons_zero, List.set_cons_succ]
  refine RegT.take (i := 8) (v := ?_) rfl (by kernel_rfl) (by kernel_rfl) (by kernel_rfl) (by kernel_rfl) (fun c a w h => hp c a _ _ w h) (Or.inl ⟨by rfl, ?_⟩) (by assumption) ?_
  rotate_left
  · intro w hSw; (try dsimp only at hSw); go_simp; first | done | with_reducible rfl
  try simp only [Act.put, List.setIfInBounds_toArray, List.set_cons_zero, List.set_cons_succ]
  refine RegT.take (i := 9) (v := ?_) rfl (by kernel_rfl) (by kernel_rfl) (by kernel_rfl) (by kernel_rfl) (fun c a w h => hp c a _ _ w h) (Or.inl ⟨by rfl, ?_⟩) (by assumption) ?_
  rotate_left
  · intro w hSw; (try dsimp only at hSw); go_simp; first | done | with_reducible rfl
  try simp only [Act.put, List.setIfInBounds_toArray, List.set_cons_zero, List.set_cons_succ]
  refine RegT.take (i := 10) (v := ?_) rfl (by kernel_rfl) (by kernel_rfl) (by kernel_rfl) (by kernel_rfl) (fun c a w h => hp c a _ _ w h) (Or.inl ⟨by rfl, ?_⟩) (by assumption) ?_
  rotate_left
  · intro w hSw; (try dsimp only at hSw); go_simp; first | done | with_reducible rfl
  try simp only [Act.put, List.setIfInBounds_toArray, List.set_cons_zero, List.set_cons_succ]
  refine RegT.take (i := 11) (v := ?_) rfl (by kernel_rfl) (by kernel_rfl) (by kernel_rfl) (by kernel_rfl) (fun c a w h => hp c a _ _ w h) (Or.inl ⟨by rfl, ?_⟩) (by assumption) ?_
  rotate_left
  · intro w hSw; (try dsimp only at hSw); go_simp; first | done | with_reducible rfl
  try simp only [Act.put, List.setIfInBounds_toArray, List.set_cons_zero, List.set_cons_succ]
  refine RegT.take (i := 12) (v := ?_) rfl (by kernel_rfl) (by kernel_rfl) (by kernel_rfl) (by kernel_rfl) (fun c a w h => hp c a _ _ w h) (Or.inl ⟨by rfl, ?_⟩) (by assumption) ?_
  rotate_left
  · intro w hSw; (try dsimp only at hSw); go_simp; first | done | with_reducible rfl
  try simp only [Act.put, List.setIfInBounds_toArray, List.set_cons_zero, List.set_cons_succ]
  refine RegT.take (i := 13) (v := ?_) rfl (by kernel_rfl) (by kernel_rfl) (by kernel_rfl) (by kernel_rfl) (fun c a w h => hp c a _ _ w h) (Or.inl ⟨by rfl, ?_⟩) (by assumption) ?_
  rotate_left
  · intro w hSw; (try dsimp only at hSw); go_simp; first | done | with_reducible rfl
  try simp only [Act.put, List.setIfInBounds_toArray, List.set_cons_zero, List.set_cons_succ]
  refine RegT.take (i := 14) (v := ?_) rfl (by kernel_rfl) (by kernel_rfl) (by kernel_rfl) (by kernel_rfl) (fun c a w h => hp c a _ _ w h) (Or.inl ⟨by rfl, ?_⟩) (by assumption) ?_
  rotate_left
  · intro w hSw; (try dsimp only at hSw); go_simp; first | done | with_reducible rfl
  try simp only [Act.put, List.setIfInBounds_toArray, List.set_cons_zero, List.set_cons_succ]
  refine RegT.one (i := 15) (by kernel_rfl) rfl (fun K hK => ?_)
  go_simp
  refine hcall.mono ?_
  rintro e w3 ⟨rfl, k, rfl⟩
  refine hK.out _ _ ⟨k0, k1, v1⟩ (fun hHeld => ?_)
  clear hK K hcall
  try simp only [Act.put, List.setIfInBounds_toArray, List.set_cons_zero, List.set_cons_succ]
  have hkb3 : (w.drew.drewN k).heap[kb]? = some (kblk hb (.slice o n c) fv mv) := hkb
  have hX3 : (w.drew.drewN k).heap[xb]? = some (.cells X 55 (0, 0)) := hX
  have hrow3 : (w.drew.drewN k).ownsRow B 55 8 (.slice o n c) n xs := hrow
  have hT3 : Turned (fun k => k = kb ∨ (Value.slice o n c).ownBlock = some k) w (w.drew.drewN k) := ((Turned.refl _ w).drew).drewN k
  have hB3 : B ≤ (w.drew.drewN k).heap.size := hB
  have hz3 : (w.drew.drewN k).heap.size = w.heap.size := rfl
  have v13 : (w.drew.drewN k).cell? ⟨vb, vo + 1, none⟩ = some (.int .i64 (a : Int)) := v1
  clear hkb hX hrow k0 k1 v1 hB
  generalize w.drew.drewN k = w3 at *
  have e0 : w3.cell? ⟨xb, yo, none⟩ = some (.int .i64 x.kind) := cell_of_block (i := yo) hX3 (hx 0 _ rfl)
  have e1 : w3.cell? ⟨xb, yo + 1, none⟩ = some (.int .i64 x.tag) := cell_of_block (i := yo + 1) hX3 (hx 1 _ rfl)
  have e2 : w3.cell? ⟨xb, yo + 2, none⟩ = some (.int .i64 x.id) := cell_of_block (i := yo + 2) hX3 (hx 2 _ rfl)
  have e3 : w3.cell? ⟨xb, yo + 3, none⟩ = some (.int .i64 x.size) := cell_of_block (i := yo + 3) hX3 (hx 3 _ rfl)
  have e4 : w3.cell? ⟨xb, yo + 4, none⟩ = some (.int .i64 x.vk) := cell_of_block (i := yo + 4) hX3 (hx 4 _ rfl)
  have e5 : w3.cell? ⟨xb, yo + 5, none⟩ = some (.int .i64 x.vn) := cell_of_block (i := yo + 5) hX3 (hx 5 _ rfl)
  have e6 : w3.cell? ⟨xb, yo + 6, none⟩ = some (.string x.vs) := cell_of_block (i := yo + 6) hX3 (hx 6 _ rfl)
  have e7 : w3.cell? ⟨xb, yo + 7, none⟩ = some (.int .i64 x.moved) := cell_of_block (i := yo + 7) hX3 (hx 7 _ rfl)
  refine RegT.one (i := 16) (by kernel_rfl) rfl (fun K hK => ?_)
  go_simp
  refine hK.out _ _ (by assumption) (fun hHeld => ?_)
  clear hK K
  try simp only [Act.put, List.setIfInBounds_toArray, List.set_cons_zero, List.set_cons_succ]
  refine RegT.one (i := 17) (by kernel_rfl) rfl (fun K hK => ?_)
  go_simp
  refine hK.out _ _ (by assumption) (fun hHeld => ?_)
  clear hK K
  try simp only [Act.put, List.setIfInBounds_toArray, List.set_cons_zero, List.set_cons_succ]
  clear e0 e1 e2 e3 e4 e5 e6 e7
  refine RegT.one (i := 18) (by kernel_rfl) rfl (fun K hK => ?_)
  go_simp
  refine hK.out _ _ ⟨alloc_cell hHeld.1 _, alloc_cell hHeld.2.1 _, alloc_cell hHeld.2.2 _⟩ (fun hHeld => ?_)
  clear hK K
  try simp only [Act.put, List.setIfInBounds_toArray, List.set_cons_zero, List.set_cons_succ]
  refine RegT.one (i := 19) (by kernel_rfl) rfl (fun K hK => ?_)
  refine step_append_lies _ (by rfl) _ _ _ (by rfl) B 55 iC _ 8 72 Try.underlying46 hiC hzC0 hzC1 hzC2 rfl (by decide) (.slice o n c) n xs (by rfl) (hrow3.alloc _) ⟨w.heap.size, 0, none⟩ 1 1 x.vals (by rfl) (by rfl) (World.news_of_block (cs := x.vals.toArray) (t := 55) (fr := (0, 0)) (heap_alloc_at hz3 _)) (by simp [HCell.vals, Value.oneCell']) (by decide) hml hbt (by simp; omega) (w.heap.size + 1) (by simp [hz3]) ?_
  intro g cap w4 hown4 hgrow4 hat4 hlt4
  have hkb4 : w4.heap[kb]? = some (kblk hb (.slice o n c) fv mv) := (hgrow4.block kb (by simp; omega) (fun h => t1 h.symm)).trans ((Below.heap_alloc w3 _ kb (by omega)).trans hkb3)
  have hv4 : w4.cell? ⟨vb, vo + 1, none⟩ = some (.int .i64 (a : Int)) := ((hgrow4.cell_far ⟨vb, vo + 1, none⟩ (by simp; omega) (fun h => t4 h.symm)).trans (Below.cell (B := w3.heap.size) ((Below.refl _ w3).alloc (Nat.le_refl _) _) (by simp; omega))).trans v13
  have hT4 : Turned (fun k => k = kb ∨ (Value.slice o n c).ownBlock = some k) w w4 := (hT3.alloc _).grown hgrow4 (fun k hk => Or.inl (Or.inr hk))
  have hg4 : (Value.slice o n c).ownBlock = some g ∨ w.heap.size ≤ g := hat4.imp id (fun h => by omega)
  have z0 : w4.cell? ⟨kb, 0, none⟩ = some (.pointer (some ⟨hb, 0, none⟩)) := cell_of_block hkb4 rfl
  have z1 : w4.cell? ⟨kb, 1, none⟩ = some (.slice o n c) := cell_of_block hkb4 rfl
  have zf : w4.frozen? ⟨kb, 1, none⟩ = false := frozen_of_block hkb4
  refine hK.out _ _ ⟨z0, z1, hv4⟩ (fun hHeld => ?_)
  clear hK K
  try simp only [Act.put, List.setIfInBounds_toArray, List.set_cons_zero, List.set_cons_succ]
  clear hat4 hgrow4 hX3 hrow3 hT3 v13 hkb3
  refine RegT.one (i := 20) (by kernel_rfl) rfl (fun K hK => ?_)
  go_simp
  refine hK.out _ _ (by assumption) (fun hHeld => ?_)
  clear hK K
  try simp only [Act.put, List.setIfInBounds_toArray, List.set_cons_zero, List.set_cons_succ]
  refine RegT.one (i := 21) (by kernel_rfl) rfl (fun K hK => ?_)
  go_simp
  refine hK.out _ _ (by assumption) (fun hHeld => ?_)
  clear hK K
  try simp only [Act.put, List.setIfInBounds_toArray, List.set_cons_zero, List.set_cons_succ]
  refine RegT.last (by kernel_rfl) rfl (by kernel_rfl) (fun K hK => ?_)
  go_simp
  refine hK.out _ _ ?_
  clear hK K
  try simp only [Act.put, List.setIfInBounds_toArray, List.set_cons_zero, List.set_cons_succ]
  refine hQ _ _ _ _ _ _ _ _ _ _ _ _ _ _ _ _ _ _ _ _ _ _ g cap _ ?_ ?_ ?_ hg4
  · exact blk_set hkb4 _
  · exact ownsRow_same hown4 (fun k hk => blk_ne (fun h => by simp at h; subst h; simp [Value.ownBlock] at hk; rcases hg4 with h1 | h1; exact t1 (h1.trans (by rw [hk])); omega))
  · exact hT4.setCell (Or.inl (Or.inl rfl)) _
end Go.Proofs.Ythbkklnahhdgcaa.ChCa
