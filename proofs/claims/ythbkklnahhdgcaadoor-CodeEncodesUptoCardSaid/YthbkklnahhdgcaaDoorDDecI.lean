/-
  Package code's Decode: what it makes of the bytes.
-/
import Derived.Test.YthbkklnahhdgcaaDoorDDecFb
import Derived.Test.YthbkklnahhdgcaaDoorDMD
import Derived.Test.YthbkklnahhdgcaaDoorDDecEb
import Derived.Test.YthbkklnahhdgcaaDoorDMF
import Derived.Test.YthbkklnahhdgcaaDoorDCodeI
import Derived.Test.YthbkklnahhdgcaaDoorDMA
namespace Go.Proofs.YthbkklnahhdgcaaDoor.DecI
open Go Go.Proofs Go.RowKit Lib CodeR CodeA CodeB CodeD CodeP CodeQ CodeS CodeL CodeI EncA EncB EncS DecA DecB DecC DecD DecEa DecEb DecFa DecFb DecG DecH DecP CodeO ErrC ErrD

theorem conv4 (w : World) (oa : Option Addr) (L : List UInt8) (c : Nat) (hn : 4 ≤ L.length) (hrow : ∀ (k : Nat) (x : UInt8), L[k]? = some x → ∃ b o, oa = some ⟨b, o, none⟩ ∧ w.cell? ⟨b, o + k, none⟩ = some (bv x)) :
    (convert 64 9 (.slice oa 4 c)).run Tryd.prog w = .ok (.string (sub L 0 4)) w := by
  have h := conv_sub w oa L 0 4 c (by omega) hrow
  have e : oa.map (fun x => x.add 0) = oa := by cases oa <;> rfl
  rw [e] at h
  exact h
theorem three (w : World) (a b c : Obj) : (((w.alloc a).alloc b).alloc c).heap[w.heap.size]? = some a ∧ (((w.alloc a).alloc b).alloc c).heap[w.heap.size + 1]? = some b ∧ (((w.alloc a).alloc b).alloc c).heap[w.heap.size + 1 + 1]? = some c ∧ (((w.alloc a).alloc b).alloc c).heap.size = w.heap.size + 1 + 1 + 1 ∧ Below w.heap.size w (((w.alloc a).alloc b).alloc c) := by
  have s1 : (w.alloc a).heap.size = w.heap.size + 1 := by simp
  have s2 : ((w.alloc a).alloc b).heap.size = w.heap.size + 1 + 1 := by simp
  refine ⟨?_, ?_, ?_, by simp, below_alloc (below_alloc (below_alloc (Below.refl _ _) _ (Nat.le_refl _)) _ (Nat.le_refl _)) _ (Nat.le_refl _)⟩
  · rw [Below.heap_alloc _ _ _ (by omega), Below.heap_alloc _ _ _ (by omega)]
    exact heap_alloc_new w a
  · rw [Below.heap_alloc _ _ _ (by omega), ← s1]
    exact heap_alloc_new _ b
  · rw [← s2]
    exact heap_alloc_new _ c
theorem below_of_tc {n cb : Nat} {w w' : World} (h : Tc cb w w') (hn : n ≤ cb) (hs : n ≤ w.heap.size) : Below n w w' :=
  ⟨h.os, h.tape, h.output, h.size, fun k hk => h.block k (by omega) (fun e => by have h2 : k = cb := e; omega)⟩
theorem or_tc {cb : Nat} {oa : Option Addr} {c vb B : Nat} {L : List UInt8} {w w' : World} {p : Nat} {bad : Bool} {base E sz : Nat} {v : Value} {rows : List (List Value)} (hE : E ≠ 160) (hD : DS cb oa c vb B L w p bad) (h : Tc cb w w') (hO : OR w base E sz v rows) : OR w' base E sz v rows :=
  hO.keep (fun g hg => by
    obtain ⟨cur, hc⟩ := own_block hO hg
    refine h.block g (lt_of_block hc) (fun hk => ?_)
    have h2 : g = cb := hk
    subst h2
    have := hD.blk.symm.trans hc
    cases this
    exact hE rfl)
theorem or_set {w : World} {X i : Nat} {u : Value} {cur : Array Value} {T : TypeId} {base E sz : Nat} {v : Value} {rows : List (List Value)} (hE : T ≠ E) (hX : w.heap[X]? = some (.cells cur T (0, 0))) (hO : OR w base E sz v rows) : OR (w.setCell ⟨X, i, none⟩ u) base E sz v rows :=
  hO.keep (fun g hg => by
    obtain ⟨c2, hc⟩ := own_block hO hg
    refine blk_ne (fun h => ?_)
    have h2 : g = X := h
    subst h2
    rw [hX] at hc
    cases hc
    exact hE rfl)

theorem flat_sing {α β : Type} (f : α → β) : ∀ l : List α, (l.map fun b => [f b]).flatten = l.map f
  | [] => rfl
  | a :: t => by
    rw [List.map_cons, List.flatten_cons, flat_sing f t]
    rfl
theorem bu_rows {w : World} {B : Nat} {v : Value} {l : List UInt8} (h : Bu w B v l) : ∃ oa c, v = .slice oa l.length c ∧ ∀ (k : Nat) (b : UInt8), l[k]? = some b → ∃ ad, oa = some ad ∧ w.cell? (ad.add k) = some (bv b) := by
  have h' : OR w B 5 1 v (l.map fun b => [bv b]) := by
    unfold OR
    rw [List.length_map]
    rw [flat_sing]
    exact h
  obtain ⟨S, hS, hI, _⟩ := h'.slIn (by intro r hr; obtain ⟨y, _, rfl⟩ := List.mem_map.mp hr; rfl)
  have hn := hI.len
  rw [List.length_map] at hn
  refine ⟨S.oa, S.c, by rw [← hS, ← hn]; rfl, fun k b hb => ?_⟩
  have hk := (List.getElem?_eq_some_iff.mp hb).1
  have ha := hI.addr (by omega)
  have hr := hI.row k [bv b] (by rw [List.getElem?_map, hb]; rfl) 0 _ rfl
  refine ⟨_, ha, ?_⟩
  rw [Addr.add_lit]
  simpa using hr

/-- Bytes of an image that may be looked at: what was read of them gives them again. -/
structure Good (L : List UInt8) : Prop where
  head : sub L 0 4 = ⟨#[82, 87, 78, 68]⟩
  bad : (imP L 4 false).2.2 = false
  sum : numV L (imP L 4 false).2.1 = (sumB (L.take (imP L 4 false).2.1) : Int)
  num : numF L (imP L 4 false).2.1 = false
  fin : numE L (imP L 4 false).2.1 = L.length
  enc : enc (imP L 4 false).1 = L
theorem imP_eq (L : List UInt8) : imP L 4 false = (⟨(lst L (fcP L) (lst L (clP L) (lst L (cnP L) 4 false).2.1 (lst L (cnP L) 4 false).2.2).2.1 (lst L (clP L) (lst L (cnP L) 4 false).2.1 (lst L (cnP L) 4 false).2.2).2.2).1, (lst L (cnP L) 4 false).1, (lst L (clP L) (lst L (cnP L) 4 false).2.1 (lst L (cnP L) 4 false).2.2).1, noSl, noSl, noSl⟩, (lst L (fcP L) (lst L (clP L) (lst L (cnP L) 4 false).2.1 (lst L (cnP L) 4 false).2.2).2.1 (lst L (clP L) (lst L (cnP L) 4 false).2.1 (lst L (cnP L) 4 false).2.2).2.2).2) := by
  simp only [imP, bnd, ret]

set_option maxRecDepth 100000 in
set_option maxHeartbeats 3200000 in
theorem Decode_head (oa : Option Addr) (c : Nat) (L : List UInt8) (w : World) (hL : L.length ≤ 100000) (hc : L.length ≤ c) (hrow : ∀ (k : Nat) (x : UInt8), L[k]? = some x → ∃ b o, oa = some ⟨b, o, none⟩ ∧ w.cell? ⟨b, o + k, none⟩ = some (bv x)) (h4 : 4 ≤ L.length) (hh : sub L 0 4 = ⟨#[82, 87, 78, 68]⟩) :
    Calls Tryd.prog 27 #[.slice oa L.length c] w fun r w' => Below w.heap.size w w' ∧ ((¬ Good L ∧ r = .returned (.tuple #[.pointer none, .iface 35 (.int .i64 3)])) ∨ (Good L ∧ ∃ m ib e p v, ImSame (imP L 4 false).1 m ∧ Row w' ib 0 m.vals ∧ ImIn w' m ∧ ImVerdict m e p ∧ ErrIs w' v e p ∧ ((e ≠ 0 ∧ r = .returned (.tuple #[.pointer none, v])) ∨ (e = 0 ∧ r = .returned (.tuple #[.pointer (some ⟨ib, 0, none⟩), .nilIface]))))) := by
  have hcv := conv4 w oa L c h4 hrow
  rw [hh] at hcv
  have d1 : decide ((100000 : Int) < (L.length : Int)) = false := by simp; omega
  have d2 : decide ((L.length : Int) < 4) = false := by simp; omega
  have d3 : 4 ≤ c := by omega
  have him : Aside (imP L 4 false = _) := imP_eq L
  have hblk : ∀ (k : Nat) (x : UInt8), L[k]? = some x → ∃ b o, oa = some ⟨b, o, none⟩ ∧ b < w.heap.size ∧ w.cell? ⟨b, o + k, none⟩ = some (bv x) := fun k x hx => by
    obtain ⟨b, o, h1, h2⟩ := hrow k x hx
    exact ⟨b, o, h1, World.block_lt_of_cell? w _ h2, h2⟩
  obtain ⟨b0, b1, b2, hs0, hB0⟩ := three w (.cells #[.slice oa L.length c, .int .i64 4, .bool false] 160) (.cells #[.pointer (some ⟨w.heap.size, 0, none⟩)] 158) (.cells #[.slice none 0 0, .slice none 0 0, .slice none 0 0] 42)
  go_enter Tryd.func27, Tryd.ntmps27
  go_wp2_with fail
  generalize (((w.alloc (.cells #[.slice oa L.length c, .int .i64 4, .bool false] 160)).alloc (.cells #[.pointer (some ⟨w.heap.size, 0, none⟩)] 158)).alloc (.cells #[.slice none 0 0, .slice none 0 0, .slice none 0 0] 42)) = w0 at *
  obtain ⟨n, hn⟩ : ∃ n, w.heap.size = n := ⟨_, rfl⟩
  rw [hn] at b0 b1 b2 hs0 hB0 ⊢
  have hD0 : DS n oa c (n + 1) (n + 1 + 1) L w0 4 false := ⟨b0, h4, fun k x hx => (by obtain ⟨b, o, h1, h2, h3⟩ := hblk k x hx; exact ⟨b, o, h1, by omega, by omega, (hB0.cell (p := ⟨b, o + k, none⟩) (by (show b < n); omega)).trans h3⟩), b1, by omega, by omega, by omega, hL, hc⟩
  clear b0 b1 hcv
  obtain ⟨vb, hvb⟩ : ∃ vb, n + 1 = vb := ⟨_, rfl⟩
  obtain ⟨ib, hib⟩ : ∃ ib, n + 1 + 1 = ib := ⟨_, rfl⟩
  rw [hib] at b2 hD0 ⊢
  rw [hvb] at hD0 ⊢
  have eic : ib ≠ n := by omega
  have eiv : ib ≠ vb := by omega
  have eni : n ≤ ib := by omega
  refine (DecLCn.list_any n oa c vb ib L (cnP L) (fun p bad w h => cn_any n oa c vb ib L p bad w h) _ _ _ hD0).mono ?_
  rintro e w1 ⟨v1, rfl, hO1, hD1, hT1⟩
  obtain ⟨o1, n1, k1, rfl⟩ := own_sl hO1 (by intro r hr; obtain ⟨y, _, rfl⟩ := List.mem_map.mp hr; rfl)
  have bi1 : w1.heap[ib]? = _ := (hT1.block ib (lt_of_block b2) eic).trans b2
  have hB1 := hB0.trans (below_of_tc hT1 (Nat.le_refl n) (by have := lt_of_block b2; omega))
  have c1 : w1.cell? ⟨ib, 1, none⟩ = some (.slice none 0 0) := cell_of_block (i := 1) bi1 rfl
  have f1 : w1.frozen? ⟨ib, 1, none⟩ = false := frozen_of_block (i := 1) bi1
  have kv1 : w1.cell? ⟨vb, 0, none⟩ = some (.pointer (some ⟨n, 0, none⟩)) := cell_of_block (i := 0) hD1.var rfl
  have bs1 := img_set (i := 1) (v := (.slice o1 n1 k1)) bi1
  have hDs1 := hD1.keep ((Below.refl _ w1).setCell (p := ⟨ib, 1, none⟩) (Nat.le_refl ib) (.slice o1 n1 k1))
  have hBs1 := hB1.setCell (p := ⟨ib, 1, none⟩) eni (.slice o1 n1 k1)
  replace hO1 := or_set (i := 1) (u := (.slice o1 n1 k1)) (by decide) bi1 hO1.low
  go_wp2_with fail
  refine (DecLCl.list_any n oa c vb ib L ClSame OwnCl (fun _ _ _ h hs => h.stay hs) (clP L) (fun p bad w h => cl_any n oa c vb ib L p bad w h) _ _ _ hDs1).mono ?_
  rintro e w2 ⟨v2, ks, rfl, hO2, hI2, hA2, hD2, hT2⟩
  obtain ⟨o2, n2, k2, rfl⟩ := own_sl hO2 (by intro r hr; obtain ⟨y, _, rfl⟩ := List.mem_map.mp hr; rfl)
  have bi2 : w2.heap[ib]? = _ := (hT2.block ib (lt_of_block bs1) eic).trans bs1
  have hB2 := hBs1.trans (below_of_tc hT2 (Nat.le_refl n) (by have := lt_of_block bs1; omega))
  replace hO1 := or_tc (by decide) hDs1 hT2 hO1
  have c2 : w2.cell? ⟨ib, 2, none⟩ = some (.slice none 0 0) := cell_of_block (i := 2) bi2 rfl
  have f2 : w2.frozen? ⟨ib, 2, none⟩ = false := frozen_of_block (i := 2) bi2
  have kv2 : w2.cell? ⟨vb, 0, none⟩ = some (.pointer (some ⟨n, 0, none⟩)) := cell_of_block (i := 0) hD2.var rfl
  have bs2 := img_set (i := 2) (v := (.slice o2 n2 k2)) bi2
  have hDs2 := hD2.keep ((Below.refl _ w2).setCell (p := ⟨ib, 2, none⟩) (Nat.le_refl ib) (.slice o2 n2 k2))
  have hBs2 := hB2.setCell (p := ⟨ib, 2, none⟩) eni (.slice o2 n2 k2)
  replace hO1 := or_set (i := 2) (u := (.slice o2 n2 k2)) (by decide) bi2 hO1.low
  replace hO2 := or_set (i := 2) (u := (.slice o2 n2 k2)) (by decide) bi2 hO2.low
  replace hI2 := fun x hx => (hI2 x hx).stay (Stay.setCell (i := 2) (v := (.slice o2 n2 k2)) (Stay.refl w2) bi2 (by decide))
  go_wp2_with fail
  refine (DecLFc.list_any n oa c vb ib L FcSame OwnFd (fun _ _ _ h hs => h.stay hs) (fcP L) (fun p bad w h => fc_any n oa c vb ib L p bad w h) _ _ _ hDs2).mono ?_
  rintro e w3 ⟨v3, fs, rfl, hO3, hI3, hA3, hD3, hT3⟩
  obtain ⟨o3, n3, k3, rfl⟩ := own_sl hO3 (by intro r hr; obtain ⟨y, _, rfl⟩ := List.mem_map.mp hr; rfl)
  have bi3 : w3.heap[ib]? = _ := (hT3.block ib (lt_of_block bs2) eic).trans bs2
  have hB3 := hBs2.trans (below_of_tc hT3 (Nat.le_refl n) (by have := lt_of_block bs2; omega))
  replace hO1 := or_tc (by decide) hDs2 hT3 hO1
  replace hO2 := or_tc (by decide) hDs2 hT3 hO2
  replace hI2 := fun x hx => (hI2 x hx).stay (Stay.of_tc hDs2 hT3)
  have c3 : w3.cell? ⟨ib, 0, none⟩ = some (.slice none 0 0) := cell_of_block (i := 0) bi3 rfl
  have f3 : w3.frozen? ⟨ib, 0, none⟩ = false := frozen_of_block (i := 0) bi3
  have kv3 : w3.cell? ⟨vb, 0, none⟩ = some (.pointer (some ⟨n, 0, none⟩)) := cell_of_block (i := 0) hD3.var rfl
  have bs3 := img_set (i := 0) (v := (.slice o3 n3 k3)) bi3
  have hDs3 := hD3.keep ((Below.refl _ w3).setCell (p := ⟨ib, 0, none⟩) (Nat.le_refl ib) (.slice o3 n3 k3))
  have hBs3 := hB3.setCell (p := ⟨ib, 0, none⟩) eni (.slice o3 n3 k3)
  replace hO1 := or_set (i := 0) (u := (.slice o3 n3 k3)) (by decide) bi3 hO1.low
  replace hO2 := or_set (i := 0) (u := (.slice o3 n3 k3)) (by decide) bi3 hO2.low
  replace hO3 := or_set (i := 0) (u := (.slice o3 n3 k3)) (by decide) bi3 hO3.low
  replace hI2 := fun x hx => (hI2 x hx).stay (Stay.setCell (i := 0) (v := (.slice o3 n3 k3)) (Stay.refl w3) bi3 (by decide))
  replace hI3 := fun x hx => (hI3 x hx).stay (Stay.setCell (i := 0) (v := (.slice o3 n3 k3)) (Stay.refl w3) bi3 (by decide))
  have kc : w3.cell? ⟨n, 1, none⟩ = some (.int .i64 _) := cell_of_block (i := 1) hD3.blk rfl
  go_wp2_with fail
  generalize w3.setCell ⟨ib, 0, none⟩ (.slice o3 n3 k3) = w4 at *
  generalize lst L (cnP L) 4 false = F1 at *
  generalize lst L (clP L) F1.2.1 F1.2.2 = F2 at *
  generalize lst L (fcP L) F2.2.1 F2.2.2 = F3 at *
  obtain ⟨F3a, q, bd⟩ := F3
  dsimp only at *
  have hq := hDs3.le
  clear hT1 hT2 hT3 hD1 hD2 hD3 hDs1 hDs2 hB0 hB1 hB2 hB3 hBs1 hBs2 b2 bi1 bi2 bi3 bs1 bs2 c1 c2 c3 f1 f2 f3 kv1 kv2 kv3 kc hD0 hs0
  replace hO1 := OR.keep (w' := w4.drew) hO1 (fun g hg => rfl)
  replace hO2 := OR.keep (w' := w4.drew) hO2 (fun g hg => rfl)
  replace hO3 := OR.keep (w' := w4.drew) hO3 (fun g hg => rfl)
  replace hI2 := fun x hx => (hI2 x hx).stay (w' := w4.drew) (fun _ _ _ _ _ => rfl)
  replace hI3 := fun x hx => (hI3 x hx).stay (w' := w4.drew) (fun _ _ _ _ _ => rfl)
  have hD4 := hDs3.drew
  have hB4 := hBs3.drew
  have bi4 : w4.drew.heap[ib]? = _ := bs3
  have kv : w4.cell? ⟨vb, 0, none⟩ = some (.pointer (some ⟨n, 0, none⟩)) := cell_of_block (i := 0) hDs3.var rfl
  have hqn : ¬ L.length < q := by omega
  have hqc : q ≤ c := by omega
  refine RegU.begin (S := fun wz => wz.cell? ⟨vb, 0, none⟩ = some (.pointer (some ⟨n, 0, none⟩))) (N := [1, 2, 3, 4, 5, 6, 7, 17, 18, 19, 20, 26, 27]) (by kernel_rfl) ?_ (fun hHeld => ?_)
  · (try dsimp only); go_keep
  generalize w4.drew = wd at *
  refine RegU.take [1, 8, 9, 10, 11, 12, 13, 14, 15, 16, 17, 18, 19, 20, 21, 22, 23, 24, 25, 26, 27, 28, 29, 30, 31] (i := 0) (v := ?_) rfl (by kernel_rfl) (by kernel_rfl) (by kernel_rfl) (by kernel_rfl) (by kernel_rfl) (fun _ _ _ h => h) (Or.inl ⟨by rfl, ?_⟩) (by assumption) ?_
  rotate_left
  · intro w hSw; (try dsimp only at hSw); go_simp; first | done | with_reducible rfl
  try simp only [Act.put, List.setIfInBounds_toArray, List.set_cons_zero, List.set_cons_succ]
  refine RegU.take [7, 8, 9, 10, 11, 12, 13, 14, 15, 16, 17, 18, 19, 20, 21, 22, 23, 24, 25, 26, 27, 28, 29, 30, 31] (i := 2) (v := ?_) rfl (by kernel_rfl) (by kernel_rfl) (by kernel_rfl) (by kernel_rfl) (by kernel_rfl) (fun _ _ _ h => h) (Or.inl ⟨by rfl, ?_⟩) (by assumption) ?_
  rotate_left
  · intro w hSw; (try dsimp only at hSw); go_simp; first | done | with_reducible rfl
  try simp only [Act.put, List.setIfInBounds_toArray, List.set_cons_zero, List.set_cons_succ]
  refine RegU.take [6, 7, 8, 9, 10, 11, 12, 13, 14, 15, 16, 17, 18, 19, 20, 21, 22, 23, 24, 25, 26, 27, 28, 29, 30, 31] (i := 3) (v := ?_) rfl (by kernel_rfl) (by kernel_rfl) (by kernel_rfl) (by kernel_rfl) (by kernel_rfl) (fun _ _ _ h => h) (Or.inl ⟨by rfl, ?_⟩) (by assumption) ?_
  rotate_left
  · intro w hSw; (try dsimp only at hSw); go_simp; first | done | with_reducible rfl
  try simp only [Act.put, List.setIfInBounds_toArray, List.set_cons_zero, List.set_cons_succ]
  refine RegU.take [5, 6, 7, 8, 9, 10, 11, 12, 13, 14, 15, 16, 17, 18, 19, 20, 21, 22, 23, 24, 25, 26, 27, 28, 29, 30, 31] (i := 4) (v := ?_) rfl (by kernel_rfl) (by kernel_rfl) (by kernel_rfl) (by kernel_rfl) (by kernel_rfl) (fun _ _ _ h => h) (Or.inl ⟨by rfl, ?_⟩) (by assumption) ?_
  rotate_left
  · intro w hSw; (try dsimp only at hSw); go_simp; first | done | with_reducible rfl
  try simp only [Act.put, List.setIfInBounds_toArray, List.set_cons_zero, List.set_cons_succ]
  refine RegU.take [6, 7, 8, 9, 10, 11, 12, 13, 14, 15, 16, 17, 18, 19, 20, 21, 22, 23, 24, 25, 26, 27, 28, 29, 30, 31] (i := 5) (v := ?_) rfl (by kernel_rfl) (by kernel_rfl) (by kernel_rfl) (by kernel_rfl) (by kernel_rfl) (fun _ _ _ h => h) (Or.inl ⟨by rfl, ?_⟩) (by assumption) ?_
  rotate_left
  · intro w hSw; (try dsimp only at hSw); go_simp; first | done | with_reducible rfl
  try simp only [Act.put, List.setIfInBounds_toArray, List.set_cons_zero, List.set_cons_succ]
  refine RegU.take [7, 8, 9, 10, 11, 12, 13, 14, 15, 16, 17, 18, 19, 20, 21, 22, 23, 24, 25, 26, 27, 28, 29, 30, 31] (i := 6) (v := ?_) rfl (by kernel_rfl) (by kernel_rfl) (by kernel_rfl) (by kernel_rfl) (by kernel_rfl) (fun _ _ _ h => h) (Or.inl ⟨by rfl, ?_⟩) (by assumption) ?_
  rotate_left
  · intro w hSw; (try dsimp only at hSw); go_simp; first | done | with_reducible rfl
  try simp only [Act.put, List.setIfInBounds_toArray, List.set_cons_zero, List.set_cons_succ]
  refine RegU.take [8, 9, 10, 11, 12, 13, 14, 15, 16, 17, 18, 19, 20, 21, 22, 23, 24, 25, 26, 27, 28, 29, 30, 31] (i := 7) (v := ?_) rfl (by kernel_rfl) (by kernel_rfl) (by kernel_rfl) (by kernel_rfl) (by kernel_rfl) (fun _ _ _ h => h) (Or.inl ⟨by rfl, ?_⟩) (by assumption) ?_
  rotate_left
  · intro w hSw; (try dsimp only at hSw); go_simp; first | done | with_reducible rfl
  try simp only [Act.put, List.setIfInBounds_toArray, List.set_cons_zero, List.set_cons_succ]
  refine RegU.one (i := 1) (by kernel_rfl) rfl (fun K hK => ?_)
  go_simp
  refine (num_any n oa c vb ib L q bd _ hD4).mono ?_
  rintro e w5 ⟨rfl, hD5, hT5⟩
  have kv5 : w5.cell? ⟨vb, 0, none⟩ = some (.pointer (some ⟨n, 0, none⟩)) := cell_of_block (i := 0) hD5.var rfl
  refine hK.out _ _ kv5 (fun hHeld => ?_)
  clear hK K
  try simp only [Act.put, List.setIfInBounds_toArray, List.set_cons_zero, List.set_cons_succ]
  have hrw5 : ∀ (k : Nat) (b : UInt8), (L.take q)[k]? = some b → ∃ ad, oa = some ad ∧ w5.cell? (ad.add k) = some (bv b) := fun k b hb => by
    have hb2 : L[k]? = some b := by
      have hk := (List.getElem?_eq_some_iff.mp hb).1
      rw [List.length_take] at hk
      rw [List.getElem?_take_of_lt (by omega)] at hb
      exact hb
    obtain ⟨b2, o2, h1, _, _, h2⟩ := hD5.row k b hb2
    exact ⟨_, h1, by rw [Addr.add_lit]; exact h2⟩
  have hsum := sum_any oa c (L.take q) w5 (by rw [List.length_take]; omega) hrw5
  rw [List.length_take, Nat.min_eq_left hq] at hsum
  refine RegU.one (i := 8) (by kernel_rfl) rfl (fun K hK => ?_)
  go_simp
  refine hsum.mono ?_
  rintro e w6 ⟨rfl, hw6⟩
  subst hw6
  refine hK.out _ _ kv5 (fun hHeld => ?_)
  clear hK K
  try simp only [Act.put, List.setIfInBounds_toArray, List.set_cons_zero, List.set_cons_succ]
  have k5b : w6.cell? ⟨n, 2, none⟩ = some (.bool (bd || numF L q)) := cell_of_block hD5.blk rfl
  have k5a : w6.cell? ⟨n, 1, none⟩ = some (.int .i64 (numE L q : Nat)) := cell_of_block hD5.blk rfl
  have bi5 : w6.heap[ib]? = _ := (hT5.block ib (lt_of_block bi4) eic).trans bi4
  have hB5 := hB4.trans (below_of_tc hT5 (Nat.le_refl n) (by have := lt_of_block bi4; omega))
  replace hO1 := or_tc (by decide) hD4 hT5 hO1
  replace hO2 := or_tc (by decide) hD4 hT5 hO2
  replace hO3 := or_tc (by decide) hD4 hT5 hO3
  replace hI2 := fun x hx => (hI2 x hx).stay (Stay.of_tc hD4 hT5)
  replace hI3 := fun x hx => (hI3 x hx).stay (Stay.of_tc hD4 hT5)
  have hg := fun h : Good L => (⟨h.bad, h.sum, h.num, h.fin, h.enc⟩ : (imP L 4 false).2.2 = false ∧ numV L (imP L 4 false).2.1 = (sumB (L.take (imP L 4 false).2.1) : Int) ∧ numF L (imP L 4 false).2.1 = false ∧ numE L (imP L 4 false).2.1 = L.length ∧ enc (imP L 4 false).1 = L)
  rw [him.out] at hg
  dsimp only at hg
  have hg2 : Aside (Good L → _) := hg
  clear hg hT5 bs3 hBs3 hDs3 kv hsum hrw5 hblk
  by_cases hA : numV L q = (sumB (L.take q) : Int)
  rotate_left
  · have hAd : (numV L q != (sumB (L.take q) : Int)) = true := by simpa using hA
    refine RegU.one (i := 9) (by kernel_rfl) rfl (fun K hK => ?_)
    go_simp
    refine hK.out _ _ (by assumption) (fun hHeld => ?_)
    clear hK K
    try simp only [Act.put, List.setIfInBounds_toArray, List.set_cons_zero, List.set_cons_succ]
    refine RegU.one (i := 10) (by kernel_rfl) rfl (fun K hK => ?_)
    go_simp
    refine hK.out _ _ (by assumption) (fun hHeld => ?_)
    clear hK K
    try simp only [Act.put, List.setIfInBounds_toArray, List.set_cons_zero, List.set_cons_succ]
    refine RegU.one (i := 11) (by kernel_rfl) rfl (fun K hK => ?_)
    go_simp
    refine hK.out _ _ (by assumption) (fun hHeld => ?_)
    clear hK K
    try simp only [Act.put, List.setIfInBounds_toArray, List.set_cons_zero, List.set_cons_succ]
    refine RegU.one (i := 12) (by kernel_rfl) rfl (fun K hK => ?_)
    go_simp
    refine hK.out _ _ (by assumption) (fun hHeld => ?_)
    clear hK K
    try simp only [Act.put, List.setIfInBounds_toArray, List.set_cons_zero, List.set_cons_succ]
    refine RegU.one (i := 13) (by kernel_rfl) rfl (fun K hK => ?_)
    go_simp
    refine hK.out _ _ (by assumption) (fun hHeld => ?_)
    clear hK K
    try simp only [Act.put, List.setIfInBounds_toArray, List.set_cons_zero, List.set_cons_succ]
    refine RegU.one (i := 14) (by kernel_rfl) rfl (fun K hK => ?_)
    go_simp
    refine hK.out _ _ (by assumption) (fun hHeld => ?_)
    clear hK K
    try simp only [Act.put, List.setIfInBounds_toArray, List.set_cons_zero, List.set_cons_succ]
    refine RegU.one (i := 15) (by kernel_rfl) rfl (fun K hK => ?_)
    go_simp
    refine hK.out _ _ (by assumption) (fun hHeld => ?_)
    clear hK K
    try simp only [Act.put, List.setIfInBounds_toArray, List.set_cons_zero, List.set_cons_succ]
    refine RegU.one (i := 16) (by kernel_rfl) rfl (fun K hK => ?_)
    go_simp
    refine hK.out _ _ (by assumption) (fun hHeld => ?_)
    clear hK K
    try simp only [Act.put, List.setIfInBounds_toArray, List.set_cons_zero, List.set_cons_succ]
    refine RegU.take [22, 23, 24, 25, 26, 27, 28, 29, 30, 31] (i := 21) rfl (by kernel_rfl) (by kernel_rfl) (by kernel_rfl) (by kernel_rfl) (by kernel_rfl) (fun _ _ _ h => h) (Or.inr ⟨by rfl, rfl⟩) (by assumption) ?_
    try simp only [Act.put, List.setIfInBounds_toArray, List.set_cons_zero, List.set_cons_succ]
    refine RegU.take [23, 24, 25, 26, 27, 28, 29, 30, 31] (i := 22) rfl (by kernel_rfl) (by kernel_rfl) (by kernel_rfl) (by kernel_rfl) (by kernel_rfl) (fun _ _ _ h => h) (Or.inr ⟨by rfl, rfl⟩) (by assumption) ?_
    try simp only [Act.put, List.setIfInBounds_toArray, List.set_cons_zero, List.set_cons_succ]
    refine RegU.one (i := 17) (by kernel_rfl) rfl (fun K hK => ?_)
    go_simp
    refine hK.out _ _ (by assumption) (fun hHeld => ?_)
    clear hK K
    try simp only [Act.put, List.setIfInBounds_toArray, List.set_cons_zero, List.set_cons_succ]
    refine RegU.one (i := 18) (by kernel_rfl) rfl (fun K hK => ?_)
    go_simp
    refine hK.out _ _ (by assumption) (fun hHeld => ?_)
    clear hK K
    try simp only [Act.put, List.setIfInBounds_toArray, List.set_cons_zero, List.set_cons_succ]
    refine RegU.one (i := 19) (by kernel_rfl) rfl (fun K hK => ?_)
    go_simp
    refine hK.out _ _ (by assumption) (fun hHeld => ?_)
    clear hK K
    try simp only [Act.put, List.setIfInBounds_toArray, List.set_cons_zero, List.set_cons_succ]
    refine RegU.one (i := 20) (by kernel_rfl) rfl (fun K hK => ?_)
    go_simp
    refine hK.out _ _ (by assumption) (fun hHeld => ?_)
    clear hK K
    try simp only [Act.put, List.setIfInBounds_toArray, List.set_cons_zero, List.set_cons_succ]
    refine RegU.one (i := 23) (by kernel_rfl) rfl (fun K hK => ?_)
    go_simp
    refine hK.out _ _ (by assumption) (fun hHeld => ?_)
    clear hK K
    try simp only [Act.put, List.setIfInBounds_toArray, List.set_cons_zero, List.set_cons_succ]
    refine RegU.one (i := 24) (by kernel_rfl) rfl (fun K hK => ?_)
    go_simp
    refine hK.out _ _ (by assumption) (fun hHeld => ?_)
    clear hK K
    try simp only [Act.put, List.setIfInBounds_toArray, List.set_cons_zero, List.set_cons_succ]
    refine RegU.one (i := 25) (by kernel_rfl) rfl (fun K hK => ?_)
    go_simp
    refine hK.out _ _ (by assumption) (fun hHeld => ?_)
    clear hK K
    try simp only [Act.put, List.setIfInBounds_toArray, List.set_cons_zero, List.set_cons_succ]
    refine RegU.take [29, 30, 31] (i := 28) rfl (by kernel_rfl) (by kernel_rfl) (by kernel_rfl) (by kernel_rfl) (by kernel_rfl) (fun _ _ _ h => h) (Or.inr ⟨by rfl, rfl⟩) (by assumption) ?_
    try simp only [Act.put, List.setIfInBounds_toArray, List.set_cons_zero, List.set_cons_succ]
    refine RegU.one (i := 26) (by kernel_rfl) rfl (fun K hK => ?_)
    go_simp
    refine hK.out _ _ (by assumption) (fun hHeld => ?_)
    clear hK K
    try simp only [Act.put, List.setIfInBounds_toArray, List.set_cons_zero, List.set_cons_succ]
    refine RegU.one (i := 27) (by kernel_rfl) rfl (fun K hK => ?_)
    go_simp
    refine hK.out _ _ (by assumption) (fun hHeld => ?_)
    clear hK K
    try simp only [Act.put, List.setIfInBounds_toArray, List.set_cons_zero, List.set_cons_succ]
    refine RegU.one (i := 29) (by kernel_rfl) rfl (fun K hK => ?_)
    go_simp
    refine hK.out _ _ (by assumption) (fun hHeld => ?_)
    clear hK K
    try simp only [Act.put, List.setIfInBounds_toArray, List.set_cons_zero, List.set_cons_succ]
    refine RegU.one (i := 30) (by kernel_rfl) rfl (fun K hK => ?_)
    go_simp
    refine hK.out _ _ (by assumption) (fun hHeld => ?_)
    clear hK K
    try simp only [Act.put, List.setIfInBounds_toArray, List.set_cons_zero, List.set_cons_succ]
    refine RegU.one (i := 31) (by kernel_rfl) rfl (fun K hK => ?_)
    go_simp
    refine hK.out _ _ (by assumption) (fun hHeld => ?_)
    clear hK K
    try simp only [Act.put, List.setIfInBounds_toArray, List.set_cons_zero, List.set_cons_succ]
    refine RegU.rest [] [] (by kernel_rfl) rfl ?_
    go_wp2
    refine bodyPost_ret (results_tmp2 Tryd.results27 _ _ _) rfl ?_
    exact ⟨by rw [hn]; exact hB5, Or.inl ⟨fun h => (hA (hg2.out h).2.1), rfl⟩⟩
  have hAd : (numV L q != (sumB (L.take q) : Int)) = false := by simpa using hA
  by_cases hBb : (bd || numF L q) = true
  · rw [hBb] at k5b
    refine RegU.one (i := 9) (by kernel_rfl) rfl (fun K hK => ?_)
    go_simp
    refine hK.out _ _ (by assumption) (fun hHeld => ?_)
    clear hK K
    try simp only [Act.put, List.setIfInBounds_toArray, List.set_cons_zero, List.set_cons_succ]
    refine RegU.one (i := 10) (by kernel_rfl) rfl (fun K hK => ?_)
    go_simp
    refine hK.out _ _ (by assumption) (fun hHeld => ?_)
    clear hK K
    try simp only [Act.put, List.setIfInBounds_toArray, List.set_cons_zero, List.set_cons_succ]
    refine RegU.one (i := 11) (by kernel_rfl) rfl (fun K hK => ?_)
    go_simp
    refine hK.out _ _ (by assumption) (fun hHeld => ?_)
    clear hK K
    try simp only [Act.put, List.setIfInBounds_toArray, List.set_cons_zero, List.set_cons_succ]
    refine RegU.one (i := 12) (by kernel_rfl) rfl (fun K hK => ?_)
    go_simp
    refine hK.out _ _ (by assumption) (fun hHeld => ?_)
    clear hK K
    try simp only [Act.put, List.setIfInBounds_toArray, List.set_cons_zero, List.set_cons_succ]
    refine RegU.one (i := 13) (by kernel_rfl) rfl (fun K hK => ?_)
    go_simp
    refine hK.out _ _ (by assumption) (fun hHeld => ?_)
    clear hK K
    try simp only [Act.put, List.setIfInBounds_toArray, List.set_cons_zero, List.set_cons_succ]
    refine RegU.one (i := 14) (by kernel_rfl) rfl (fun K hK => ?_)
    go_simp
    refine hK.out _ _ (by assumption) (fun hHeld => ?_)
    clear hK K
    try simp only [Act.put, List.setIfInBounds_toArray, List.set_cons_zero, List.set_cons_succ]
    refine RegU.one (i := 15) (by kernel_rfl) rfl (fun K hK => ?_)
    go_simp
    refine hK.out _ _ (by assumption) (fun hHeld => ?_)
    clear hK K
    try simp only [Act.put, List.setIfInBounds_toArray, List.set_cons_zero, List.set_cons_succ]
    refine RegU.one (i := 16) (by kernel_rfl) rfl (fun K hK => ?_)
    go_simp
    refine hK.out _ _ (by assumption) (fun hHeld => ?_)
    clear hK K
    try simp only [Act.put, List.setIfInBounds_toArray, List.set_cons_zero, List.set_cons_succ]
    refine RegU.take [22, 23, 24, 25, 26, 27, 28, 29, 30, 31] (i := 21) rfl (by kernel_rfl) (by kernel_rfl) (by kernel_rfl) (by kernel_rfl) (by kernel_rfl) (fun _ _ _ h => h) (Or.inr ⟨by rfl, rfl⟩) (by assumption) ?_
    try simp only [Act.put, List.setIfInBounds_toArray, List.set_cons_zero, List.set_cons_succ]
    refine RegU.take [23, 24, 25, 26, 27, 28, 29, 30, 31] (i := 22) rfl (by kernel_rfl) (by kernel_rfl) (by kernel_rfl) (by kernel_rfl) (by kernel_rfl) (fun _ _ _ h => h) (Or.inr ⟨by rfl, rfl⟩) (by assumption) ?_
    try simp only [Act.put, List.setIfInBounds_toArray, List.set_cons_zero, List.set_cons_succ]
    refine RegU.one (i := 17) (by kernel_rfl) rfl (fun K hK => ?_)
    go_simp
    refine hK.out _ _ (by assumption) (fun hHeld => ?_)
    clear hK K
    try simp only [Act.put, List.setIfInBounds_toArray, List.set_cons_zero, List.set_cons_succ]
    refine RegU.one (i := 18) (by kernel_rfl) rfl (fun K hK => ?_)
    go_simp
    refine hK.out _ _ (by assumption) (fun hHeld => ?_)
    clear hK K
    try simp only [Act.put, List.setIfInBounds_toArray, List.set_cons_zero, List.set_cons_succ]
    refine RegU.one (i := 19) (by kernel_rfl) rfl (fun K hK => ?_)
    go_simp
    refine hK.out _ _ (by assumption) (fun hHeld => ?_)
    clear hK K
    try simp only [Act.put, List.setIfInBounds_toArray, List.set_cons_zero, List.set_cons_succ]
    refine RegU.one (i := 20) (by kernel_rfl) rfl (fun K hK => ?_)
    go_simp
    refine hK.out _ _ (by assumption) (fun hHeld => ?_)
    clear hK K
    try simp only [Act.put, List.setIfInBounds_toArray, List.set_cons_zero, List.set_cons_succ]
    refine RegU.one (i := 23) (by kernel_rfl) rfl (fun K hK => ?_)
    go_simp
    refine hK.out _ _ (by assumption) (fun hHeld => ?_)
    clear hK K
    try simp only [Act.put, List.setIfInBounds_toArray, List.set_cons_zero, List.set_cons_succ]
    refine RegU.one (i := 24) (by kernel_rfl) rfl (fun K hK => ?_)
    go_simp
    refine hK.out _ _ (by assumption) (fun hHeld => ?_)
    clear hK K
    try simp only [Act.put, List.setIfInBounds_toArray, List.set_cons_zero, List.set_cons_succ]
    refine RegU.one (i := 25) (by kernel_rfl) rfl (fun K hK => ?_)
    go_simp
    refine hK.out _ _ (by assumption) (fun hHeld => ?_)
    clear hK K
    try simp only [Act.put, List.setIfInBounds_toArray, List.set_cons_zero, List.set_cons_succ]
    refine RegU.take [29, 30, 31] (i := 28) rfl (by kernel_rfl) (by kernel_rfl) (by kernel_rfl) (by kernel_rfl) (by kernel_rfl) (fun _ _ _ h => h) (Or.inr ⟨by rfl, rfl⟩) (by assumption) ?_
    try simp only [Act.put, List.setIfInBounds_toArray, List.set_cons_zero, List.set_cons_succ]
    refine RegU.one (i := 26) (by kernel_rfl) rfl (fun K hK => ?_)
    go_simp
    refine hK.out _ _ (by assumption) (fun hHeld => ?_)
    clear hK K
    try simp only [Act.put, List.setIfInBounds_toArray, List.set_cons_zero, List.set_cons_succ]
    refine RegU.one (i := 27) (by kernel_rfl) rfl (fun K hK => ?_)
    go_simp
    refine hK.out _ _ (by assumption) (fun hHeld => ?_)
    clear hK K
    try simp only [Act.put, List.setIfInBounds_toArray, List.set_cons_zero, List.set_cons_succ]
    refine RegU.one (i := 29) (by kernel_rfl) rfl (fun K hK => ?_)
    go_simp
    refine hK.out _ _ (by assumption) (fun hHeld => ?_)
    clear hK K
    try simp only [Act.put, List.setIfInBounds_toArray, List.set_cons_zero, List.set_cons_succ]
    refine RegU.one (i := 30) (by kernel_rfl) rfl (fun K hK => ?_)
    go_simp
    refine hK.out _ _ (by assumption) (fun hHeld => ?_)
    clear hK K
    try simp only [Act.put, List.setIfInBounds_toArray, List.set_cons_zero, List.set_cons_succ]
    refine RegU.one (i := 31) (by kernel_rfl) rfl (fun K hK => ?_)
    go_simp
    refine hK.out _ _ (by assumption) (fun hHeld => ?_)
    clear hK K
    try simp only [Act.put, List.setIfInBounds_toArray, List.set_cons_zero, List.set_cons_succ]
    refine RegU.rest [] [] (by kernel_rfl) rfl ?_
    go_wp2
    refine bodyPost_ret (results_tmp2 Tryd.results27 _ _ _) rfl ?_
    exact ⟨by rw [hn]; exact hB5, Or.inl ⟨fun h => (by have h1 := (hg2.out h).1; have h2 := (hg2.out h).2.2.1; rw [h1, h2] at hBb; cases hBb), rfl⟩⟩
  have hBf : (bd || numF L q) = false := by simpa using hBb
  rw [hBf] at k5b
  by_cases hC : numE L q = L.length
  rotate_left
  · have hCd : ((numE L q : Int) != (L.length : Int)) = true := by simp only [bne_iff_ne, ne_eq, Int.natCast_inj]; exact hC
    refine RegU.one (i := 9) (by kernel_rfl) rfl (fun K hK => ?_)
    go_simp
    refine hK.out _ _ (by assumption) (fun hHeld => ?_)
    clear hK K
    try simp only [Act.put, List.setIfInBounds_toArray, List.set_cons_zero, List.set_cons_succ]
    refine RegU.one (i := 10) (by kernel_rfl) rfl (fun K hK => ?_)
    go_simp
    refine hK.out _ _ (by assumption) (fun hHeld => ?_)
    clear hK K
    try simp only [Act.put, List.setIfInBounds_toArray, List.set_cons_zero, List.set_cons_succ]
    refine RegU.one (i := 11) (by kernel_rfl) rfl (fun K hK => ?_)
    go_simp
    refine hK.out _ _ (by assumption) (fun hHeld => ?_)
    clear hK K
    try simp only [Act.put, List.setIfInBounds_toArray, List.set_cons_zero, List.set_cons_succ]
    refine RegU.one (i := 12) (by kernel_rfl) rfl (fun K hK => ?_)
    go_simp
    refine hK.out _ _ (by assumption) (fun hHeld => ?_)
    clear hK K
    try simp only [Act.put, List.setIfInBounds_toArray, List.set_cons_zero, List.set_cons_succ]
    refine RegU.one (i := 13) (by kernel_rfl) rfl (fun K hK => ?_)
    go_simp
    refine hK.out _ _ (by assumption) (fun hHeld => ?_)
    clear hK K
    try simp only [Act.put, List.setIfInBounds_toArray, List.set_cons_zero, List.set_cons_succ]
    refine RegU.one (i := 14) (by kernel_rfl) rfl (fun K hK => ?_)
    go_simp
    refine hK.out _ _ (by assumption) (fun hHeld => ?_)
    clear hK K
    try simp only [Act.put, List.setIfInBounds_toArray, List.set_cons_zero, List.set_cons_succ]
    refine RegU.one (i := 15) (by kernel_rfl) rfl (fun K hK => ?_)
    go_simp
    refine hK.out _ _ (by assumption) (fun hHeld => ?_)
    clear hK K
    try simp only [Act.put, List.setIfInBounds_toArray, List.set_cons_zero, List.set_cons_succ]
    refine RegU.one (i := 16) (by kernel_rfl) rfl (fun K hK => ?_)
    go_simp
    refine hK.out _ _ (by assumption) (fun hHeld => ?_)
    clear hK K
    try simp only [Act.put, List.setIfInBounds_toArray, List.set_cons_zero, List.set_cons_succ]
    refine RegU.take [22, 23, 24, 25, 26, 27, 28, 29, 30, 31] (i := 21) (v := ?_) rfl (by kernel_rfl) (by kernel_rfl) (by kernel_rfl) (by kernel_rfl) (by kernel_rfl) (fun _ _ _ h => h) (Or.inl ⟨by rfl, ?_⟩) (by assumption) ?_
    rotate_left
    · intro w hSw; (try dsimp only at hSw); go_simp; first | done | with_reducible rfl
    try simp only [Act.put, List.setIfInBounds_toArray, List.set_cons_zero, List.set_cons_succ]
    refine RegU.take [23, 24, 25, 26, 27, 28, 29, 30, 31] (i := 22) (v := ?_) rfl (by kernel_rfl) (by kernel_rfl) (by kernel_rfl) (by kernel_rfl) (by kernel_rfl) (fun _ _ _ h => h) (Or.inl ⟨by rfl, ?_⟩) (by assumption) ?_
    rotate_left
    · intro w hSw; (try dsimp only at hSw); go_simp; first | done | with_reducible rfl
    try simp only [Act.put, List.setIfInBounds_toArray, List.set_cons_zero, List.set_cons_succ]
    refine RegU.one (i := 17) (by kernel_rfl) rfl (fun K hK => ?_)
    go_simp
    refine hK.out _ _ (by assumption) (fun hHeld => ?_)
    clear hK K
    try simp only [Act.put, List.setIfInBounds_toArray, List.set_cons_zero, List.set_cons_succ]
    refine RegU.one (i := 18) (by kernel_rfl) rfl (fun K hK => ?_)
    go_simp
    refine hK.out _ _ (by assumption) (fun hHeld => ?_)
    clear hK K
    try simp only [Act.put, List.setIfInBounds_toArray, List.set_cons_zero, List.set_cons_succ]
    refine RegU.one (i := 19) (by kernel_rfl) rfl (fun K hK => ?_)
    go_simp
    refine hK.out _ _ (by assumption) (fun hHeld => ?_)
    clear hK K
    try simp only [Act.put, List.setIfInBounds_toArray, List.set_cons_zero, List.set_cons_succ]
    refine RegU.one (i := 20) (by kernel_rfl) rfl (fun K hK => ?_)
    go_simp
    refine hK.out _ _ (by assumption) (fun hHeld => ?_)
    clear hK K
    try simp only [Act.put, List.setIfInBounds_toArray, List.set_cons_zero, List.set_cons_succ]
    refine RegU.one (i := 23) (by kernel_rfl) rfl (fun K hK => ?_)
    go_simp
    refine hK.out _ _ (by assumption) (fun hHeld => ?_)
    clear hK K
    try simp only [Act.put, List.setIfInBounds_toArray, List.set_cons_zero, List.set_cons_succ]
    refine RegU.one (i := 24) (by kernel_rfl) rfl (fun K hK => ?_)
    go_simp
    refine hK.out _ _ (by assumption) (fun hHeld => ?_)
    clear hK K
    try simp only [Act.put, List.setIfInBounds_toArray, List.set_cons_zero, List.set_cons_succ]
    refine RegU.one (i := 25) (by kernel_rfl) rfl (fun K hK => ?_)
    go_simp
    refine hK.out _ _ (by assumption) (fun hHeld => ?_)
    clear hK K
    try simp only [Act.put, List.setIfInBounds_toArray, List.set_cons_zero, List.set_cons_succ]
    refine RegU.take [29, 30, 31] (i := 28) rfl (by kernel_rfl) (by kernel_rfl) (by kernel_rfl) (by kernel_rfl) (by kernel_rfl) (fun _ _ _ h => h) (Or.inr ⟨by rfl, rfl⟩) (by assumption) ?_
    try simp only [Act.put, List.setIfInBounds_toArray, List.set_cons_zero, List.set_cons_succ]
    refine RegU.one (i := 26) (by kernel_rfl) rfl (fun K hK => ?_)
    go_simp
    refine hK.out _ _ (by assumption) (fun hHeld => ?_)
    clear hK K
    try simp only [Act.put, List.setIfInBounds_toArray, List.set_cons_zero, List.set_cons_succ]
    refine RegU.one (i := 27) (by kernel_rfl) rfl (fun K hK => ?_)
    go_simp
    refine hK.out _ _ (by assumption) (fun hHeld => ?_)
    clear hK K
    try simp only [Act.put, List.setIfInBounds_toArray, List.set_cons_zero, List.set_cons_succ]
    refine RegU.one (i := 29) (by kernel_rfl) rfl (fun K hK => ?_)
    go_simp
    refine hK.out _ _ (by assumption) (fun hHeld => ?_)
    clear hK K
    try simp only [Act.put, List.setIfInBounds_toArray, List.set_cons_zero, List.set_cons_succ]
    refine RegU.one (i := 30) (by kernel_rfl) rfl (fun K hK => ?_)
    go_simp
    refine hK.out _ _ (by assumption) (fun hHeld => ?_)
    clear hK K
    try simp only [Act.put, List.setIfInBounds_toArray, List.set_cons_zero, List.set_cons_succ]
    refine RegU.one (i := 31) (by kernel_rfl) rfl (fun K hK => ?_)
    go_simp
    refine hK.out _ _ (by assumption) (fun hHeld => ?_)
    clear hK K
    try simp only [Act.put, List.setIfInBounds_toArray, List.set_cons_zero, List.set_cons_succ]
    refine RegU.rest [] [] (by kernel_rfl) rfl ?_
    go_wp2
    refine bodyPost_ret (results_tmp2 Tryd.results27 _ _ _) rfl ?_
    exact ⟨by rw [hn]; exact hB5, Or.inl ⟨fun h => (hC (hg2.out h).2.2.2.1), rfl⟩⟩
  have hCd : ((numE L q : Int) != (L.length : Int)) = false := by rw [hC]; simp
  refine RegU.one (i := 9) (by kernel_rfl) rfl (fun K hK => ?_)
  go_simp
  refine hK.out _ _ (by assumption) (fun hHeld => ?_)
  clear hK K
  try simp only [Act.put, List.setIfInBounds_toArray, List.set_cons_zero, List.set_cons_succ]
  refine RegU.one (i := 10) (by kernel_rfl) rfl (fun K hK => ?_)
  go_simp
  refine hK.out _ _ (by assumption) (fun hHeld => ?_)
  clear hK K
  try simp only [Act.put, List.setIfInBounds_toArray, List.set_cons_zero, List.set_cons_succ]
  refine RegU.one (i := 11) (by kernel_rfl) rfl (fun K hK => ?_)
  go_simp
  refine hK.out _ _ (by assumption) (fun hHeld => ?_)
  clear hK K
  try simp only [Act.put, List.setIfInBounds_toArray, List.set_cons_zero, List.set_cons_succ]
  refine RegU.one (i := 12) (by kernel_rfl) rfl (fun K hK => ?_)
  go_simp
  refine hK.out _ _ (by assumption) (fun hHeld => ?_)
  clear hK K
  try simp only [Act.put, List.setIfInBounds_toArray, List.set_cons_zero, List.set_cons_succ]
  refine RegU.one (i := 13) (by kernel_rfl) rfl (fun K hK => ?_)
  go_simp
  refine hK.out _ _ (by assumption) (fun hHeld => ?_)
  clear hK K
  try simp only [Act.put, List.setIfInBounds_toArray, List.set_cons_zero, List.set_cons_succ]
  refine RegU.one (i := 14) (by kernel_rfl) rfl (fun K hK => ?_)
  go_simp
  refine hK.out _ _ (by assumption) (fun hHeld => ?_)
  clear hK K
  try simp only [Act.put, List.setIfInBounds_toArray, List.set_cons_zero, List.set_cons_succ]
  refine RegU.one (i := 15) (by kernel_rfl) rfl (fun K hK => ?_)
  go_simp
  refine hK.out _ _ (by assumption) (fun hHeld => ?_)
  clear hK K
  try simp only [Act.put, List.setIfInBounds_toArray, List.set_cons_zero, List.set_cons_succ]
  refine RegU.one (i := 16) (by kernel_rfl) rfl (fun K hK => ?_)
  go_simp
  refine hK.out _ _ (by assumption) (fun hHeld => ?_)
  clear hK K
  try simp only [Act.put, List.setIfInBounds_toArray, List.set_cons_zero, List.set_cons_succ]
  refine RegU.take [22, 23, 24, 25, 26, 27, 28, 29, 30, 31] (i := 21) (v := ?_) rfl (by kernel_rfl) (by kernel_rfl) (by kernel_rfl) (by kernel_rfl) (by kernel_rfl) (fun _ _ _ h => h) (Or.inl ⟨by rfl, ?_⟩) (by assumption) ?_
  rotate_left
  · intro w hSw; (try dsimp only at hSw); go_simp; first | done | with_reducible rfl
  try simp only [Act.put, List.setIfInBounds_toArray, List.set_cons_zero, List.set_cons_succ]
  refine RegU.take [23, 24, 25, 26, 27, 28, 29, 30, 31] (i := 22) (v := ?_) rfl (by kernel_rfl) (by kernel_rfl) (by kernel_rfl) (by kernel_rfl) (by kernel_rfl) (fun _ _ _ h => h) (Or.inl ⟨by rfl, ?_⟩) (by assumption) ?_
  rotate_left
  · intro w hSw; (try dsimp only at hSw); go_simp; first | done | with_reducible rfl
  try simp only [Act.put, List.setIfInBounds_toArray, List.set_cons_zero, List.set_cons_succ]
  refine RegU.one (i := 17) (by kernel_rfl) rfl (fun K hK => ?_)
  go_simp
  refine hK.out _ _ (by assumption) (fun hHeld => ?_)
  clear hK K
  try simp only [Act.put, List.setIfInBounds_toArray, List.set_cons_zero, List.set_cons_succ]
  refine RegU.one (i := 18) (by kernel_rfl) rfl (fun K hK => ?_)
  go_simp
  refine hK.out _ _ (by assumption) (fun hHeld => ?_)
  clear hK K
  try simp only [Act.put, List.setIfInBounds_toArray, List.set_cons_zero, List.set_cons_succ]
  refine RegU.one (i := 19) (by kernel_rfl) rfl (fun K hK => ?_)
  go_simp
  refine hK.out _ _ (by assumption) (fun hHeld => ?_)
  clear hK K
  try simp only [Act.put, List.setIfInBounds_toArray, List.set_cons_zero, List.set_cons_succ]
  refine RegU.one (i := 20) (by kernel_rfl) rfl (fun K hK => ?_)
  go_simp
  refine hK.out _ _ (by assumption) (fun hHeld => ?_)
  clear hK K
  try simp only [Act.put, List.setIfInBounds_toArray, List.set_cons_zero, List.set_cons_succ]
  refine RegU.one (i := 23) (by kernel_rfl) rfl (fun K hK => ?_)
  go_simp
  refine hK.out _ _ (by assumption) (fun hHeld => ?_)
  clear hK K
  try simp only [Act.put, List.setIfInBounds_toArray, List.set_cons_zero, List.set_cons_succ]
  refine RegU.one (i := 24) (by kernel_rfl) rfl (fun K hK => ?_)
  go_simp
  refine hK.out _ _ (by assumption) (fun hHeld => ?_)
  clear hK K
  try simp only [Act.put, List.setIfInBounds_toArray, List.set_cons_zero, List.set_cons_succ]
  refine RegU.one (i := 25) (by kernel_rfl) rfl (fun K hK => ?_)
  go_simp
  refine hK.out _ _ (by assumption) (fun hHeld => ?_)
  clear hK K
  try simp only [Act.put, List.setIfInBounds_toArray, List.set_cons_zero, List.set_cons_succ]
  refine RegU.take [29, 30, 31] (i := 28) (v := ?_) rfl (by kernel_rfl) (by kernel_rfl) (by kernel_rfl) (by kernel_rfl) (by kernel_rfl) (fun _ _ _ h => h) (Or.inl ⟨by rfl, ?_⟩) (by assumption) ?_
  rotate_left
  · intro w hSw; (try dsimp only at hSw); go_simp; first | done | with_reducible rfl
  try simp only [Act.put, List.setIfInBounds_toArray, List.set_cons_zero, List.set_cons_succ]
  refine RegU.one (i := 26) (by kernel_rfl) rfl (fun K hK => ?_)
  go_simp
  refine hK.out _ _ (by assumption) (fun hHeld => ?_)
  clear hK K
  try simp only [Act.put, List.setIfInBounds_toArray, List.set_cons_zero, List.set_cons_succ]
  have hbd : bd = false := (or_false hBf).1
  have hnf : numF L q = false := (or_false hBf).2
  have m1 := (hO1.mkIn (by intro r hr; obtain ⟨y, _, rfl⟩ := List.mem_map.mp hr; rfl))
  have m2 := (hO2.mkIn (by intro r hr; obtain ⟨y, _, rfl⟩ := List.mem_map.mp hr; rfl))
  have m3 := (hO3.mkIn (by intro r hr; obtain ⟨y, _, rfl⟩ := List.mem_map.mp hr; rfl))
  obtain ⟨m, hm⟩ : ∃ m : Im, m = ⟨fs, F1.1, ks, mkSl (.slice o3 n3 k3), mkSl (.slice o1 n1 k1), mkSl (.slice o2 n2 k2)⟩ := ⟨_, rfl⟩
  have hi6 : ImIn w6 m := by rw [hm]; exact ⟨m3.2, m1.2, m2.2, fun f hf => (hI3 f hf).fcIn, fun k hk => (hI2 k hk).clIn⟩
  have hrow6 : Row w6 ib 0 m.vals := by
    rw [hm]
    unfold Im.vals
    rw [m1.1, m2.1, m3.1]
    intro k v hv
    rw [Nat.zero_add]
    refine Lib.cell_of_block bi5 ?_
    simpa using hv
  have hsame : ImSame (imP L 4 false).1 m := by rw [him.out, hm]; exact ⟨hA3, rfl, hA2⟩
  have hG := (gd_im hL 4 false h4).2.2.2 (by rw [him.out]; exact hbd)
  have hok := imOk_same hsame hG.ok
  have hnm := names_same hsame hG.names
  have hbl : (body m).length ≤ 35184372088832 := by
    have h1 := hG.len
    rw [him.out] at h1
    have h2 := body_same hsame
    rw [him.out] at h2
    rw [← h2]
    dsimp only at h1
    dsimp only
    omega
  have hem : enc (imP L 4 false).1 = enc m := enc_same hsame
  have hem2 : Aside (enc (imP L 4 false).1 = enc m) := hem
  have hs2 : Aside (ImSame (imP L 4 false).1 m) := hsame
  clear hem hsame hG m1 m2 m3 hm hO1 hO2 hO3 hI2 hI3 hA2 hA3
  refine RegU.one (i := 27) (by kernel_rfl) rfl (fun K hK => ?_)
  go_simp
  refine (EncC.Encode_any ib 0 m w6 hrow6 hi6 hok hnm (fun _ _ => trivial) hbl).mono ?_
  rintro e w7 ⟨v7, rfl, hu7, hb7⟩
  have kv7 : w7.cell? ⟨vb, 0, none⟩ = some (.pointer (some ⟨n, 0, none⟩)) := (hb7.cell (p := ⟨vb, 0, none⟩) (World.block_lt_of_cell? w6 _ kv5)).trans kv5
  have hrow7 := hrow6.below hb7 (Nat.le_refl _)
  have hi7 := hi6.below hb7 (Nat.le_refl _)
  have hrL : ∀ (k : Nat) (b : UInt8), L[k]? = some b → ∃ ad, oa = some ad ∧ w7.cell? (ad.add k) = some (bv b) := fun k b hb => by
    obtain ⟨b2, o2, h1, _, _, h2⟩ := hD5.row k b hb
    exact ⟨_, h1, by rw [Addr.add_lit]; exact (hb7.cell (World.block_lt_of_cell? w6 _ h2)).trans h2⟩
  have hB7 := hB5.trans (hb7.mono (by have := hB5.size; omega))
  obtain ⟨oe, ce, rfl, hre⟩ := bu_rows hu7
  refine hK.out _ _ kv7 (fun hHeld => ?_)
  clear hK K
  try simp only [Act.put, List.setIfInBounds_toArray, List.set_cons_zero, List.set_cons_succ]
  refine RegU.rest [29, 30, 31] [_, _, _] (by kernel_rfl) rfl ?_
  have heq := equal_any oe oa ce c (enc m) L w7 (by unfold enc; rw [List.length_append]; have := num10 (n := (sumB (body m) : Int)) ⟨by omega, by have := sumB_lt (body m); omega⟩; omega) (by omega) hre hrL
  clear hre hrL hu7 hrow6 hi6 hb7 kv5 k5a k5b bi5 hD5
  go_wp2_with fail
  refine heq.mono ?_
  rintro e w8 ⟨n8, rfl, rfl⟩
  have hB8 := Lib.below_drewN hB7 n8
  have hrow8 : Row (w7.drewN n8) ib 0 m.vals := fun k v hv => hrow7 k v hv
  have hi8 := hi7.below (Lib.below_drewN (Below.refl _ w7) n8) (Nat.le_refl _)
  generalize w7.drewN n8 = w8 at *
  by_cases hE : enc m = L
  rotate_left
  · have hEd : decide (enc m = L) = false := by simpa using hE
    rw [hEd]
    go_wp2
    refine bodyPost_ret (results_tmp2 Tryd.results27 _ _ _) rfl ?_
    exact ⟨by rw [hn]; exact hB8, Or.inl ⟨fun h => hE (by have h1 := hem2.out; rw [h.enc] at h1; exact h1.symm), rfl⟩⟩
  have hEd : decide (enc m = L) = true := by simpa using hE
  rw [hEd]
  have hgood : Good L := by
    have hE2 := hem2.out.trans hE
    refine ⟨hh, ?_, ?_, ?_, ?_, hE2⟩ <;> rw [him.out]
    · exact hbd
    · exact hA
    · exact hnf
    · exact hC
  have hg3 : Aside (Good L) := hgood
  clear hgood hE hEd hBb hBf hA hAd hC hCd hg2
  go_wp2_with fail
  refine (Check_any ib 0 m w8 hrow8 hi8 (bOk_im hok)).mono ?_
  rintro r w9 ⟨e9, p9, v9, rfl, he9, hv9, hb9⟩
  have hB9 := hB8.trans (hb9.mono (by have := hB8.size; omega))
  have hrow9 := hrow8.below hb9 (Nat.le_refl _)
  have hi9 := hi8.below hb9 (Nat.le_refl _)
  have h9 := he9
  rcases h9 with ⟨rfl, rfl, rfl⟩ | ⟨h0, rfl, rfl⟩ | ⟨b9, rfl, h1, h0⟩
  · go_wp2_with fail
    refine bodyPost_ret (results_tmp2 Tryd.results27 _ _ _) rfl ?_
    exact ⟨by rw [hn]; exact hB9, Or.inr ⟨hg3.out, m, ib, _, _, _, hs2.out, hrow9, hi9, hv9, he9, Or.inr ⟨rfl, rfl⟩⟩⟩
  · go_wp2_with fail
    refine bodyPost_ret (results_tmp2 Tryd.results27 _ _ _) rfl ?_
    exact ⟨by rw [hn]; exact hB9, Or.inr ⟨hg3.out, m, ib, _, _, _, hs2.out, hrow9, hi9, hv9, he9, Or.inl ⟨h0, rfl⟩⟩⟩
  · go_wp2_with fail
    refine bodyPost_ret (results_tmp2 Tryd.results27 _ _ _) rfl ?_
    exact ⟨by rw [hn]; exact hB9, Or.inr ⟨hg3.out, m, ib, _, _, _, hs2.out, hrow9, hi9, hv9, he9, Or.inl ⟨h0, rfl⟩⟩⟩
end Go.Proofs.YthbkklnahhdgcaaDoor.DecI
