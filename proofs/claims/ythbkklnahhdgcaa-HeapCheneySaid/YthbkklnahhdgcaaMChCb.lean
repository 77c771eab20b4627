/-
  Package heap's collector: move's loop that copies an object's cells, by itself.
-/
import Derived.Test.YthbkklnahhdgcaaMChCa
namespace Go.Proofs.Ythbkklnahhdgcaa.ChCb
open Go Go.Proofs Go.RowKit Lib HeapR HeapA HeapB HeapF ChA ChB ChCa

/-- What holds at each round's head. -/
def Rel (kb hb B n : Nat) (tv0 fv mv : Value) (xs : List Value) (ob : Ob) (w : World) (i : Nat) (wr : World) : Prop :=
  i ≤ ob.len ∧ ∃ o c, wr.heap[kb]? = some (kblk hb (.slice o (n + i) c) fv mv) ∧ wr.ownsRow B 55 8 (.slice o (n + i) c) (n + i) (xs ++ hvals ((ob.cells 0).take i)) ∧ Turned (fun k => k = kb ∨ tv0.ownBlock = some k) w wr ∧ ∀ k, (Value.slice o (n + i) c).ownBlock = some k → tv0.ownBlock = some k ∨ w.heap.size ≤ k

def Inv (kb hb vb vo B n : Nat) (tv0 fv mv : Value) (xs : List Value) (ob : Ob) (w : World) (u2 u3 u4 u5 u7 u8 u9 u10 u11 u12 u13 u14 u15 u16 u17 u18 u19 u20 u21 u22 u23 u24 u25 u26 u27 u28 u29 u30 u31 u32 u33 u34 u35 u36 u37 u38 u39 u40 u41 u42 u43 u44 u45 u46 u47 u48 u49 u50 u51 u52 u53 u54 u55 u83 u84 u85 u86 u87 u88 u89 u90 u91 u92 u93 u94 u95 u96 u97 u98 u99 u100 u101 u102 u103 u104 u105 u106 u107 u108 u109 u110 u111 : Value) (a : Act) (wr : World) : Prop :=
  ∃ (i : Nat) (s6 s58 s59 s60 s61 s62 s63 s64 s65 s66 s67 s68 s69 s70 s71 s72 s73 s74 s75 s76 s77 s78 s79 s80 s81 s82 : Value), Rel kb hb B n tv0 fv mv xs ob w i wr ∧ a = ⟨#[(.pointer (some ⟨kb, 0, none⟩)), (.pointer (some ⟨vb, vo, none⟩)), u2, u3, u4, u5, s6, u7, u8, u9, u10, u11, u12, u13, u14, u15, u16, u17, u18, u19, u20, u21, u22, u23, u24, u25, u26, u27, u28, u29, u30, u31, u32, u33, u34, u35, u36, u37, u38, u39, u40, u41, u42, u43, u44, u45, u46, u47, u48, u49, u50, u51, u52, u53, u54, u55, (.int .i64 (ob.len : Int)), (.int .i64 (i : Int)), s58, s59, s60, s61, s62, s63, s64, s65, s66, s67, s68, s69, s70, s71, s72, s73, s74, s75, s76, s77, s78, s79, s80, s81, s82, u83, u84, u85, u86, u87, u88, u89, u90, u91, u92, u93, u94, u95, u96, u97, u98, u99, u100, u101, u102, u103, u104, u105, u106, u107, u108, u109, u110, u111], []⟩
def mu (ob : Ob) (a : Act) (_ : World) : Nat := ob.len - (intOf (a.tmps.getD 57 undef)).toNat

theorem turned_row {w wr w' : World} {kb : Nat} {r0 r : Option Nat} (h : Turned (fun k => k = kb ∨ r0 = some k) w wr) (h' : Turned (fun k => k = kb ∨ r = some k) wr w') (ho : ∀ k, r = some k → r0 = some k ∨ w.heap.size ≤ k) (_ : kb < w.heap.size) : Turned (fun k => k = kb ∨ r0 = some k) w w' :=
  ⟨h'.os.trans h.os, h'.tape.trans h.tape, h'.output.trans h.output, Nat.le_trans h.size h'.size, fun k hk hs => (h'.block k (Nat.lt_of_lt_of_le hk h.size) (fun e => e.elim (fun e => hs (Or.inl e)) (fun e => (ho k e).elim (fun e => hs (Or.inr e)) (fun e => by omega)))).trans (h.block k hk hs)⟩
theorem hvals_snoc (l : List HCell) (i : Nat) (x : HCell) (h : l[i]? = some x) : hvals (l.take (i + 1)) = hvals (l.take i) ++ x.vals := by
  rw [List.take_add_one, h]
  simp [hvals]

set_option maxRecDepth 100000 in
set_option maxHeartbeats 1000000 in
theorem copy_loop {Q : Exit → Act → World → Prop} (u2 u3 u4 u5 u6 u7 u8 u9 u10 u11 u12 u13 u14 u15 u16 u17 u18 u19 u20 u21 u22 u23 u24 u25 u26 u27 u28 u29 u30 u31 u32 u33 u34 u35 u36 u37 u38 u39 u40 u41 u42 u43 u44 u45 u46 u47 u48 u49 u50 u51 u52 u53 u54 u55 u58 u59 u60 u61 u62 u63 u64 u65 u66 u67 u68 u69 u70 u71 u72 u73 u74 u75 u76 u77 u78 u79 u80 u81 u82 u83 u84 u85 u86 u87 u88 u89 u90 u91 u92 u93 u94 u95 u96 u97 u98 u99 u100 u101 u102 u103 u104 u105 u106 u107 u108 u109 u110 u111 : Value) (kb hb xb xo vb vo B : Nat) (a : Nat) (n : Nat) (tv0 fv mv : Value) (X : Array Value) (ob : Ob) (xs : List Value) (w : World)
    (hkb : w.heap[kb]? = some (kblk hb tv0 fv mv)) (v1 : w.cell? ⟨vb, vo + 1, none⟩ = some (.int .i64 (a : Int)))
    (hX : w.heap[xb]? = some (.cells X 55 (0, 0))) (hXc : ∀ (i : Nat) (c : HCell), (ob.cells 0)[i]? = some c → ∀ (j : Nat) (v : Value), c.vals[j]? = some v → X[xo + i * 8 + j]? = some v)
    (hat : ∀ (w1 : World), w1.heap[hb]? = w.heap[hb]? → ∀ i : Nat, i < ob.len → Calls Try.prog 19 #[.pointer (some ⟨hb, 0, none⟩), .int .i64 ((a : Int) + (i : Int))] w1 fun e w' => e = .returned (.pointer (some ⟨xb, xo + i * 8, none⟩)) ∧ ∃ k, w' = w1.drewN k)
    (hrow : w.ownsRow B 55 8 tv0 n xs) (hB : B ≤ w.heap.size) (t1 : tv0.ownBlock ≠ some kb) (t2 : tv0.ownBlock ≠ some hb) (t3 : tv0.ownBlock ≠ some xb) (t4 : tv0.ownBlock ≠ some vb) (d1 : hb ≠ kb) (d2 : xb ≠ kb) (d3 : vb ≠ kb) (hbl : hb < w.heap.size)
    (hnb : n + ob.len ≤ big) (hab : a + ob.len ≤ big)
    (hp : ∀ (c : List PanicEntry) (a : Act) (d : Tmp) (v : Value) (w : World), Q (.panic c) (a.put (some d) v) w → Q (.panic c) a w)
    (hQ : ∀ (s6 s58 s59 s60 s61 s62 s63 s64 s65 s66 s67 s68 s69 s70 s71 s72 s73 s74 s75 s76 s77 s78 s79 s80 s81 s82 : Value) (o : Option Addr) (c : Nat) (w' : World), w'.heap[kb]? = some (kblk hb (.slice o (n + ob.len) c) fv mv) → w'.ownsRow B 55 8 (.slice o (n + ob.len) c) (n + ob.len) (xs ++ hvals (ob.cells 0)) → Turned (fun k => k = kb ∨ tv0.ownBlock = some k) w w' → (∀ k, (Value.slice o (n + ob.len) c).ownBlock = some k → tv0.ownBlock = some k ∨ w.heap.size ≤ k) →
      Q (.exit 0) ⟨#[(.pointer (some ⟨kb, 0, none⟩)), (.pointer (some ⟨vb, vo, none⟩)), u2, u3, u4, u5, s6, u7, u8, u9, u10, u11, u12, u13, u14, u15, u16, u17, u18, u19, u20, u21, u22, u23, u24, u25, u26, u27, u28, u29, u30, u31, u32, u33, u34, u35, u36, u37, u38, u39, u40, u41, u42, u43, u44, u45, u46, u47, u48, u49, u50, u51, u52, u53, u54, u55, (.int .i64 (ob.len : Int)), (.int .i64 (ob.len : Int)), s58, s59, s60, s61, s62, s63, s64, s65, s66, s67, s68, s69, s70, s71, s72, s73, s74, s75, s76, s77, s78, s79, s80, s81, s82, u83, u84, u85, u86, u87, u88, u89, u90, u91, u92, u93, u94, u95, u96, u97, u98, u99, u100, u101, u102, u103, u104, u105, u106, u107, u108, u109, u110, u111], []⟩ w') :
    Code.wp Try.prog (Cut.piece Try.f23 (Cut.loop 7)) Q ⟨#[(.pointer (some ⟨kb, 0, none⟩)), (.pointer (some ⟨vb, vo, none⟩)), u2, u3, u4, u5, u6, u7, u8, u9, u10, u11, u12, u13, u14, u15, u16, u17, u18, u19, u20, u21, u22, u23, u24, u25, u26, u27, u28, u29, u30, u31, u32, u33, u34, u35, u36, u37, u38, u39, u40, u41, u42, u43, u44, u45, u46, u47, u48, u49, u50, u51, u52, u53, u54, u55, (.int .i64 (ob.len : Int)), (.int .i64 (0 : Int)), u58, u59, u60, u61, u62, u63, u64, u65, u66, u67, u68, u69, u70, u71, u72, u73, u74, u75, u76, u77, u78, u79, u80, u81, u82, u83, u84, u85, u86, u87, u88, u89, u90, u91, u92, u93, u94, u95, u96, u97, u98, u99, u100, u101, u102, u103, u104, u105, u106, u107, u108, u109, u110, u111], []⟩ w := by
  conv => arg 2; whnf
  refine wp_loop (Inv kb hb vb vo B n tv0 fv mv xs ob w u2 u3 u4 u5 u7 u8 u9 u10 u11 u12 u13 u14 u15 u16 u17 u18 u19 u20 u21 u22 u23 u24 u25 u26 u27 u28 u29 u30 u31 u32 u33 u34 u35 u36 u37 u38 u39 u40 u41 u42 u43 u44 u45 u46 u47 u48 u49 u50 u51 u52 u53 u54 u55 u83 u84 u85 u86 u87 u88 u89 u90 u91 u92 u93 u94 u95 u96 u97 u98 u99 u100 u101 u102 u103 u104 u105 u106 u107 u108 u109 u110 u111) (mu ob) ?_ (fun a' wr hI => ?_)
  · obtain ⟨o, c, rfl⟩ := own_slice hrow
    exact ⟨0, u6, u58, u59, u60, u61, u62, u63, u64, u65, u66, u67, u68, u69, u70, u71, u72, u73, u74, u75, u76, u77, u78, u79, u80, u81, u82, ⟨Nat.zero_le _, o, c, hkb, by rw [List.take_zero]; simpa [hvals] using hrow, Turned.refl _ _, fun k h => Or.inl h⟩, rfl⟩
  obtain ⟨i, hI⟩ := hI
  obtain ⟨s6, hI⟩ := hI
  obtain ⟨s58, hI⟩ := hI
  obtain ⟨s59, hI⟩ := hI
  obtain ⟨s60, hI⟩ := hI
  obtain ⟨s61, hI⟩ := hI
  obtain ⟨s62, hI⟩ := hI
  obtain ⟨s63, hI⟩ := hI
  obtain ⟨s64, hI⟩ := hI
  obtain ⟨s65, hI⟩ := hI
  obtain ⟨s66, hI⟩ := hI
  obtain ⟨s67, hI⟩ := hI
  obtain ⟨s68, hI⟩ := hI
  obtain ⟨s69, hI⟩ := hI
  obtain ⟨s70, hI⟩ := hI
  obtain ⟨s71, hI⟩ := hI
  obtain ⟨s72, hI⟩ := hI
  obtain ⟨s73, hI⟩ := hI
  obtain ⟨s74, hI⟩ := hI
  obtain ⟨s75, hI⟩ := hI
  obtain ⟨s76, hI⟩ := hI
  obtain ⟨s77, hI⟩ := hI
  obtain ⟨s78, hI⟩ := hI
  obtain ⟨s79, hI⟩ := hI
  obtain ⟨s80, hI⟩ := hI
  obtain ⟨s81, hI⟩ := hI
  obtain ⟨s82, hI⟩ := hI
  obtain ⟨hR, rfl⟩ := hI
  obtain ⟨hi, o, c, hkbr, hrowr, hTr, hown⟩ := hR
  have hor : ∀ k, tv0.ownBlock ≠ some k → k < w.heap.size → (Value.slice o (n + i) c).ownBlock ≠ some k := fun k h1 h2 h3 => (hown k h3).elim h1 (fun h => by omega)
  have hvl : vb < w.heap.size := World.block_lt_of_cell? w _ v1
  have hkl := lt_of_block hkb
  have hXr : wr.heap[xb]? = some (.cells X 55 (0, 0)) := (hTr.block xb (lt_of_block hX) (fun h => h.elim d2 t3)).trans hX
  have hbr : wr.heap[hb]? = w.heap[hb]? := hTr.block hb hbl (fun h => h.elim d1 t2)
  have v1r : wr.cell? ⟨vb, vo + 1, none⟩ = some (.int .i64 (a : Int)) := (World.cell?_of_block (a := ⟨vb, vo + 1, none⟩) (hTr.block vb hvl (fun h => h.elim d3 t4))).trans v1
  have hBr : B ≤ wr.heap.size := Nat.le_trans hB hTr.size
  have q1 := hor kb t1 hkl
  have q4 := hor vb t4 hvl
  have hzr := hTr.size
  by_cases hil : i < ob.len
  · have hil' : decide ((i : Int) < (ob.len : Int)) = true := by simpa using hil
    obtain ⟨x, hx⟩ : ∃ x, (ob.cells 0)[i]? = some x := ⟨_, List.getElem?_eq_getElem (by rw [Ob.length_cells]; exact hil)⟩
    have hcall : ∀ k : Nat, Calls Try.prog 19 #[.pointer (some ⟨hb, 0, none⟩), .int .i64 ((a : Int) + (i : Int))] (wr.drew) fun e w' => e = .returned (.pointer (some ⟨xb, xo + i * 8, none⟩)) ∧ ∃ k, w' = (wr.drew).drewN k := fun _ => hat wr.drew hbr i hil
    have hb1 : n + i + 1 ≤ big := by omega
    have hb2 : a + i ≤ big := by omega
    have hsnoc := hvals_snoc (ob.cells 0) i x hx
    have hi1 : IntKind.i64.wrap ((i : Int) + 1) = ((i + 1 : Nat) : Int) := wrapk_two i 1 (by omega)
    go_wp2
    refine copy_region _ _ _ _ _ _ _ _ _ _ _ _ _ _ _ _ _ _ _ _ _ _ _ _ _ _ _ _ _ _ _ _ _ _ _ _ _ _ _ _ _ _ _ _ _ _ _ _ _ _ _ _ _ _ _ _ _ _ _ _ _ _ _ _ _ _ _ _ _ _ _ _ _ _ _ _ _ _ _ _ _ _ _ _ _ _ _ _ _ _ _ _ _ _ _ _ _ _ _ _ _ _ _ _ _ _ _ _ _ kb hb xb (xo + i * 8) vb vo B a i o (n + i) c fv mv X x (xs ++ hvals ((ob.cells 0).take i)) wr hkbr v1r hXr (fun j v hv => hXc i x hx j v hv) (hcall 0) hrowr hBr q1 q4 hb1 hb2 ?_ ?_
    · exact fun c a d v w h => hp c a d v w h
    intro t60 t61 t62 t63 t64 t65 t66 t67 t68 t69 t70 t71 t72 t73 t74 t75 t76 t77 t78 t79 t80 t81 g cap w' hkb' hrow' hT' hg
    clear hat hcall
    go_wp2
    refine ⟨⟨i + 1, _, _, _, _, _, _, _, _, _, _, _, _, _, _, _, _, _, _, _, _, _, _, _, _, _, _, ⟨by omega, some ⟨g, 0, none⟩, cap, hkb', by rw [hsnoc, ← List.append_assoc]; exact hrow', turned_row hTr hT' hown hkl, fun k hk => ?_⟩, rfl⟩, ?_⟩
    · simp only [Value.ownBlock, Option.some.injEq] at hk
      subst hk
      rcases hg with h | h
      · exact hown _ h
      · exact Or.inr (by omega)
    · have hi57 : i + 1 ≤ ob.len := by omega
      simp [mu, intOf]
      omega
  · have hie : i = ob.len := by omega
    subst hie
    have hil' : decide ((ob.len : Int) < (ob.len : Int)) = false := by simp
    go_wp2
    rw [List.take_of_length_le (by rw [Ob.length_cells]; omega)] at hrowr
    exact hQ _ _ _ _ _ _ _ _ _ _ _ _ _ _ _ _ _ _ _ _ _ _ _ _ _ _ o c wr hkbr hrowr hTr hown

end Go.Proofs.Ythbkklnahhdgcaa.ChCb
