/-
  Package code's cursor: num.
-/
import Derived.Test.YthbkklnahhdgcaaDoorDMA
import Derived.Test.YthbkklnahhdgcaaDoorDEncC
import Derived.Laws.Bits64b
import Derived.LoopTactic
import Derived.BigQuiet
import Derived.Deep.LoopGhost
import Derived.Laws.IdiomStrings
import Derived.Laws.BytesArg
import Derived.StillTailTactics
namespace Go.Proofs.YthbkklnahhdgcaaDoor.DecB
open Go Go.Proofs Go.RowKit Lib CodeR CodeA CodeB CodeL EncA EncB EncC DecA

/-- A cursor over bytes: where it is, and whether they were not so. It lies at cb, a variable that leads to it at vb, the bytes elsewhere; all of these below B. -/
structure DS (cb : Nat) (oa : Option Addr) (c vb B : Nat) (L : List UInt8) (w : World) (p : Nat) (bad : Bool) : Prop where
  blk : w.heap[cb]? = some (.cells #[.slice oa L.length c, .int .i64 (p : Int), .bool bad] 160 (0, 0))
  le : p ≤ L.length
  row : ∀ (k : Nat) (x : UInt8), L[k]? = some x → ∃ b o, oa = some ⟨b, o, none⟩ ∧ b ≠ cb ∧ b < B ∧ w.cell? ⟨b, o + k, none⟩ = some (bv x)
  var : w.heap[vb]? = some (.cells #[.pointer (some ⟨cb, 0, none⟩)] 158 (0, 0))
  lowc : cb < B
  lowv : vb < B
  size : B ≤ w.heap.size
  len : L.length ≤ 100000
  cap : L.length ≤ c
section
variable {cb : Nat} {oa : Option Addr} {c vb B : Nat} {L : List UInt8} {w w' : World} {p : Nat} {bad : Bool}
theorem DS.ne (h : DS cb oa c vb B L w p bad) : vb ≠ cb := by
  rintro rfl
  have h1 := h.blk.symm.trans h.var
  cases h1
theorem DS.keep (h : DS cb oa c vb B L w p bad) (hb : Below B w w') : DS cb oa c vb B L w' p bad := by
  refine ⟨(hb.block cb h.lowc).trans h.blk, h.le, ?_, (hb.block vb h.lowv).trans h.var, h.lowc, h.lowv, Nat.le_trans h.size hb.size, h.len, h.cap⟩
  intro k x hx
  obtain ⟨b, o, h1, h2, h3, h4⟩ := h.row k x hx
  exact ⟨b, o, h1, h2, h3, (hb.cell (p := ⟨b, o + k, none⟩) h3).trans h4⟩
theorem DS.drew (h : DS cb oa c vb B L w p bad) : DS cb oa c vb B L w.drew p bad := ⟨h.blk, h.le, h.row, h.var, h.lowc, h.lowv, h.size, h.len, h.cap⟩
theorem DS.drewN (h : DS cb oa c vb B L w p bad) (n : Nat) : DS cb oa c vb B L (w.drewN n) p bad := ⟨h.blk, h.le, h.row, h.var, h.lowc, h.lowv, h.size, h.len, h.cap⟩
theorem DS.setC (h : DS cb oa c vb B L w p bad) (i : Nat) (v : Value) (q : Nat) (bad' : Bool) (hq : q ≤ L.length) (hv : (#[.slice oa L.length c, .int .i64 (p : Int), .bool bad] : Array Value).setIfInBounds i v = #[.slice oa L.length c, .int .i64 (q : Int), .bool bad']) : DS cb oa c vb B L (w.setCell ⟨cb, i, none⟩ v) q bad' := by
  refine ⟨?_, hq, ?_, (blk_ne h.ne).trans h.var, h.lowc, h.lowv, by simpa [World.setCell] using h.size, h.len, h.cap⟩
  · have := img_set (i := i) (v := v) h.blk
    rw [hv] at this
    exact this
  · intro k x hx
    obtain ⟨b, o, h1, h2, h3, h4⟩ := h.row k x hx
    exact ⟨b, o, h1, h2, h3, (World.cell?_of_block (blk_ne (p := ⟨cb, i, none⟩) h2)).trans h4⟩
theorem DS.set (h : DS cb oa c vb B L w p bad) (q : Nat) (hq : q ≤ L.length) : DS cb oa c vb B L (w.setCell ⟨cb, 1, none⟩ (.int .i64 (q : Int))) q bad := h.setC 1 _ q bad hq rfl
theorem DS.fail (h : DS cb oa c vb B L w p bad) : DS cb oa c vb B L (w.setCell ⟨cb, 2, none⟩ (.bool true)) p true := h.setC 2 _ p true h.le rfl
end
abbrev Tc (cb : Nat) (w w' : World) : Prop := Turned (fun k => k = cb) w w'

theorem shlJ (y j : Nat) (hj : j ≤ 9) (w : World) : (binOp .shl 202 (.int .u64 (y : Int)) (.int .i64 (7 * (j : Int)))).run Tryd.prog w = .ok (.int .u64 ((y * 2 ^ (7 * j) % 18446744073709551616 : Nat) : Int)) w := by
  rw [binOp_shl, shift_shl_any _ _ _ _ (by omega)]
  have e : min (7 * (j : Int)).toNat IntKind.u64.bits = 7 * j := by
    show min (7 * (j : Int)).toNat 64 = 7 * j
    omega
  rw [e, IntKind.wrap_u64]
  have e2 : ((y : Int) * 2 ^ (7 * j)) % 18446744073709551616 = ((y * 2 ^ (7 * j) % 18446744073709551616 : Nat) : Int) := by
    rw [Int.natCast_emod, Int.natCast_mul, Int.natCast_pow]
    rfl
  rw [e2]
  rfl
theorem and127 (x : UInt8) : bits .and .u8 (x.toNat : Int) 127 = ((x.toNat % 128 : Nat) : Int) := by
  have key : ∀ a : Fin 256, bits .and .u8 ((a.val : Nat) : Int) 127 = ((a.val % 128 : Nat) : Int) := by decide +kernel
  exact key ⟨x.toNat, x.toNat_lt⟩
theorem orJ (u y j : Nat) (hj : j ≤ 9) (hu : u < 2 ^ (7 * j)) : bits .or .u64 (u : Int) ((y * 2 ^ (7 * j) % 18446744073709551616 : Nat) : Int) = (((u + y * 2 ^ (7 * j)) % 18446744073709551616 : Nat) : Int) := by
  have hp : 2 ^ (7 * j) ≤ 2 ^ 63 := Nat.pow_le_pow_right (by decide) (by omega)
  have hu2 : u < 18446744073709551616 := Nat.lt_of_lt_of_le hu (Nat.le_trans hp (by decide))
  rw [bits_or_u64_nat u _ hu2 (Nat.mod_lt _ (by decide))]
  have h64 : (18446744073709551616 : Nat) = 2 ^ (64 - 7 * j) * 2 ^ (7 * j) := by
    rw [← Nat.pow_add, show 64 - 7 * j + 7 * j = 64 by omega]
  have e1 : y * 2 ^ (7 * j) % 18446744073709551616 = (y % 2 ^ (64 - 7 * j)) * 2 ^ (7 * j) := by rw [h64, Nat.mul_mod_mul_right]
  have e2 : (u + y * 2 ^ (7 * j)) % 18446744073709551616 = u + (y % 2 ^ (64 - 7 * j)) * 2 ^ (7 * j) := by
    have h3 : (y % 2 ^ (64 - 7 * j)) * 2 ^ (7 * j) + 2 ^ (7 * j) ≤ 18446744073709551616 := by
      rw [h64, ← Nat.succ_mul]
      exact Nat.mul_le_mul_right _ (Nat.mod_lt _ (Nat.pow_pos (by decide)))
    have h4 : y * 2 ^ (7 * j) = (y % 2 ^ (64 - 7 * j)) * 2 ^ (7 * j) + 18446744073709551616 * (y / 2 ^ (64 - 7 * j)) := by
      have h5 := Nat.div_add_mod y (2 ^ (64 - 7 * j))
      calc y * 2 ^ (7 * j) = (2 ^ (64 - 7 * j) * (y / 2 ^ (64 - 7 * j)) + y % 2 ^ (64 - 7 * j)) * 2 ^ (7 * j) := by rw [h5]
        _ = _ := by rw [Nat.add_mul, h64, Nat.add_comm, Nat.mul_right_comm]
    rw [h4, ← Nat.add_assoc, Nat.add_mul_mod_self_left, Nat.mod_eq_of_lt (by omega)]
  rw [e1, e2, Nat.add_comm, ← Nat.shiftLeft_eq, Nat.shiftLeft_add_eq_or_of_lt hu, Nat.or_comm]
theorem numG_none {L : List UInt8} {q : Nat} (h : L[q]? = none) (f j u : Nat) : numG L f j u q = (0, q, false) := by
  cases f with
  | zero => rfl
  | succ f => unfold numG; rw [h]
theorem unzB (u : Nat) (hu : u < 18446744073709551616) : bits .xor .i64 (wrap64 ((u / 2 : Nat) : Int)) (wrap64 (-wrap64 ((u % 2 : Nat) : Int))) = unz u := by
  have e1 : wrap64 ((u / 2 : Nat) : Int) = ((u / 2 : Nat) : Int) := by unfold wrap64; omega
  have h1 : (BitVec.ofInt 64 ((u / 2 : Nat) : Int)).toNat = u / 2 := by
    rw [BitVec.ofInt_natCast, BitVec.toNat_ofNat]; exact Nat.mod_eq_of_lt (by omega)
  rw [e1]
  unfold unz
  by_cases h : u % 2 = 0
  · rw [if_pos h, h]
    have e2 : wrap64 (-wrap64 ((0 : Nat) : Int)) = 0 := by decide +kernel
    rw [e2]
    show IntKind.i64.wrap ((BitVec.ofInt 64 ((u / 2 : Nat) : Int) ^^^ BitVec.ofInt 64 0).toNat : Int) = _
    have e3 : (BitVec.ofInt 64 0) = 0#64 := by decide
    rw [e3, BitVec.xor_zero, h1]
    rw [IntKind.wrap_i64]; omega
  · have h' : u % 2 = 1 := by omega
    rw [if_neg h, h']
    have e2 : wrap64 (-wrap64 ((1 : Nat) : Int)) = -1 := by decide +kernel
    rw [e2]
    show IntKind.i64.wrap ((BitVec.ofInt 64 ((u / 2 : Nat) : Int) ^^^ BitVec.ofInt 64 (-1)).toNat : Int) = _
    have e3 : (BitVec.ofInt 64 (-1)) = BitVec.allOnes 64 := by decide
    rw [e3, BitVec.xor_allOnes, BitVec.toNat_not, h1]
    rw [IntKind.wrap_i64]; omega
theorem orW (x : UInt8) (u j : Nat) (hj : j ≤ 9) (hu : u < 2 ^ (7 * j)) : bits .or .u64 (u : Int) (IntKind.u64.wrap ((x.toNat : Int) % 128 * 2 ^ (7 * j))) = (((u + x.toNat % 128 * 2 ^ (7 * j)) % 18446744073709551616 : Nat) : Int) := by
  rw [← orJ u _ j hj hu, IntKind.wrap_u64]
  rw [Int.natCast_emod, Int.natCast_mul, Int.natCast_pow, Int.natCast_emod]
  rfl
theorem and1 (u : Nat) (hu : u < 18446744073709551616) : bits .and .u64 (u : Int) 1 = ((u % 2 : Nat) : Int) := by
  rw [show (1 : Int) = ((1 : Nat) : Int) from rfl, bits_and_u64_nat u 1 hu (by decide), Nat.and_one_is_mod]
theorem out64 (u : Nat) (hu : u < 18446744073709551616) : bits .xor .i64 (wrap64 ((u : Int) / 2)) (wrap64 (-wrap64 (bits .and .u64 (u : Int) 1))) = unz u := by
  rw [and1 u hu, ← unzB u hu]
  congr 2
theorem add1 {n : Nat} (h : n ≤ 100000) : wrap64 ((n : Int) + 1) = ((n + 1 : Nat) : Int) := by unfold wrap64; omega
theorem numG_last {L : List UInt8} {q : Nat} {x : UInt8} (h : L[q]? = some x) (hs : x.toNat < 128) (f j u : Nat) : numG L (f + 1) j u q = ((u + x.toNat % 128 * 2 ^ (7 * j)) % 18446744073709551616, q + 1, true) := by
  unfold numG; rw [h]; simp only; rw [if_pos hs]
theorem numG_next {L : List UInt8} {q : Nat} {x : UInt8} (h : L[q]? = some x) (hs : ¬ x.toNat < 128) (f j u : Nat) : numG L (f + 1) j u q = numG L f (j + 1) ((u + x.toNat % 128 * 2 ^ (7 * j)) % 18446744073709551616) (q + 1) := by
  rw [numG, h]; simp only; rw [if_neg hs]
theorem u_lt {u y j : Nat} (hu : u < 2 ^ (7 * j)) (hy : y < 128) : (u + y * 2 ^ (7 * j)) % 18446744073709551616 < 2 ^ (7 * (j + 1)) := by
  refine Nat.lt_of_le_of_lt (Nat.mod_le _ _) ?_
  rw [Nat.mul_add, Nat.pow_add]
  have h1 : (y + 1) * 2 ^ (7 * j) ≤ 2 ^ (7 * j) * 2 ^ (7 * 1) := by
    rw [Nat.mul_comm]
    exact Nat.mul_le_mul_left _ (by omega)
  rw [Nat.add_mul, Nat.one_mul] at h1
  omega

set_option maxRecDepth 100000 in
set_option maxHeartbeats 4000000 in
theorem num_any (cb : Nat) (oa : Option Addr) (c vb B : Nat) (L : List UInt8) (p : Nat) (bad : Bool) (w : World) (h : DS cb oa c vb B L w p bad) :
    Calls Tryd.prog 53 #[.pointer (some ⟨cb, 0, none⟩)] w fun e w' => e = .returned (.int .i64 (numV L p)) ∧ DS cb oa c vb B L w' (numE L p) (bad || numF L p) ∧ Tc cb w w' := by
  go_enter Tryd.func53, Tryd.ntmps53
  go_wp2
  go_loopw [3, 4] (fun s3 s4 wr => ∃ (j u q : Nat), s3 = .int .u64 (u : Int) ∧ s4 = .int .i64 (7 * (j : Int)) ∧ j ≤ 10 ∧ u < 2 ^ (7 * j) ∧ u < 18446744073709551616 ∧ DS cb oa c vb B L wr q bad ∧ Tc cb w wr ∧ numG L (10 - j) j u q = numP L p) (fun _ s4 _ => 70 - (intOf s4).toNat)
  case atStart => exact ⟨0, 0, p, rfl, rfl, by decide, by decide, by decide, h, Turned.refl _ _, rfl⟩
  case round =>
    obtain ⟨j, u, q, rfl, rfl, hj, hu, hu2, hD, hT, hG⟩ := hrel
    have k0 : wr.cell? ⟨cb, 0, none⟩ = some (.slice oa L.length c) := cell_of_block hD.blk rfl
    have k1 : wr.cell? ⟨cb, 1, none⟩ = some (.int .i64 (q : Int)) := cell_of_block hD.blk rfl
    have k2 : wr.cell? ⟨cb, 2, none⟩ = some (.bool bad) := cell_of_block hD.blk rfl
    have f1 : wr.frozen? ⟨cb, 1, none⟩ = false := frozen_of_block hD.blk
    have f2 : wr.frozen? ⟨cb, 2, none⟩ = false := frozen_of_block hD.blk
    have hA : Aside (numG L (10 - j) j u q = numP L p) := hG
    clear hG
    by_cases hq : q < L.length
    · have hd1 : decide ((L.length : Int) ≤ (q : Int)) = false := by simp; omega
      by_cases hj9 : j ≤ 9
      · have hd2 : decide ((63 : Int) < 7 * (j : Int)) = false := by simp; omega
        obtain ⟨x, hx⟩ : ∃ x, L[q]? = some x := ⟨_, List.getElem?_eq_getElem hq⟩
        obtain ⟨b, o, rfl, hbc, _, hbx⟩ := hD.row q x hx
        replace hbx : wr.cell? ⟨b, o + q, none⟩ = some (.int .u8 (x.toNat : Int)) := hbx
        have i1 : (0 : Int) ≤ (q : Int) := by omega
        have i2 : (q : Int) < (L.length : Int) := by omega
        have hsh := shlJ (x.toNat % 128) j hj9
        have han := and127 x
        by_cases hs : x.toNat < 128
        · have hd3 : decide ((x.toNat : Int) < 128) = true := by simp; omega
          obtain ⟨t, ht⟩ : ∃ t, 10 - j = t + 1 := ⟨9 - j, by omega⟩
          obtain ⟨hv, he, hb⟩ := num_good (hA.out.symm.trans (by rw [ht]; exact numG_last hx hs _ _ _) : numP L p = (_, _, true))
          go_wp2_with (go_quiet (fail))
          go_ret
          refine ⟨?_, ?_, ?_⟩
          · rw [hv, ← out64 _ (Nat.mod_lt _ (by decide)), ← orW x u j hj9 hu]
            rfl
          · rw [he, hb, Bool.or_false, add1 (by have := hD.len; omega)]
            exact (hD.drewN _).set (q + 1) hq
          · exact (hT.drewN _).setCell (p := ⟨cb, 1, none⟩) (Or.inl rfl) _
        · have hd3 : decide ((x.toNat : Int) < 128) = false := by simp; omega
          obtain ⟨t, ht⟩ : ∃ t, 10 - j = t + 1 := ⟨9 - j, by omega⟩
          go_wp2_with (go_quiet (fail))
          go_roundw
          case rel =>
            refine ⟨j + 1, (u + x.toNat % 128 * 2 ^ (7 * j)) % 18446744073709551616, q + 1, ?_, ?_, by omega, u_lt hu (Nat.mod_lt _ (by decide)), Nat.mod_lt _ (by decide), ?_, ?_, ?_⟩
            · rw [← orW x u j hj9 hu]
            · show Value.int IntKind.i64 _ = _
              congr 1
            · rw [add1 (by have := hD.len; omega)]
              exact (hD.drewN _).set (q + 1) hq
            · exact (hT.drewN _).setCell (p := ⟨cb, 1, none⟩) (Or.inl rfl) _
            · rw [← hA.out, ht, numG_next hx hs, show 10 - (j + 1) = t by omega]
          case measure => simp [intOf]; omega
      · have hd2 : decide ((63 : Int) < 7 * (j : Int)) = true := by simp; omega
        obtain rfl : j = 10 := by omega
        obtain ⟨hv, he, hb⟩ := num_bad (hA.out.symm.trans rfl : numP L p = (0, q, false))
        clear hj hu hu2
        go_wp2_with (go_quiet (fail))
        go_ret
        refine ⟨?_, ?_, ?_⟩
        · rw [hv]; rfl
        · rw [he, hb, Bool.or_true]
          exact (hD.drewN _).fail
        · exact (hT.drewN _).setCell (p := ⟨cb, 2, none⟩) (Or.inl rfl) _
    · have hd1 : decide ((L.length : Int) ≤ (q : Int)) = true := by simp; omega
      have hn : L[q]? = none := List.getElem?_eq_none_iff.mpr (by omega)
      obtain ⟨hv, he, hb⟩ := num_bad (hA.out.symm.trans (numG_none hn _ _ _) : numP L p = (0, q, false))
      clear hj hu hu2
      go_wp2_with (go_quiet (fail))
      go_ret
      refine ⟨?_, ?_, ?_⟩
      · rw [hv]; rfl
      · rw [he, hb, Bool.or_true]
        exact (hD.drewN _).fail
      · exact (hT.drewN _).setCell (p := ⟨cb, 2, none⟩) (Or.inl rfl) _
end Go.Proofs.YthbkklnahhdgcaaDoor.DecB

/-
  Package code's cursor: many and text.
-/
namespace Go.Proofs.YthbkklnahhdgcaaDoor.DecC
open Go Go.Proofs Go.RowKit Lib CodeR CodeA CodeB CodeL EncA EncB EncC DecA DecB

/-- Whether so many are no number of things that may lie there. -/
def manyX (L : List UInt8) (p : Nat) : Bool := decide (numV L p < 0) || decide ((L.length : Int) - (numE L p : Nat) < numV L p)
def manyV (L : List UInt8) (p : Nat) : Nat := if manyX L p then 0 else (numV L p).toNat
def manyF (L : List UInt8) (p : Nat) : Bool := numF L p || manyX L p
theorem many_le (L : List UInt8) (p : Nat) (hp : p ≤ L.length) : numE L p + manyV L p ≤ L.length := by
  have h := (numG_le L 10 0 0 p hp).1
  have h' : numE L p ≤ L.length := h
  unfold manyV
  split
  · omega
  · rename_i hx
    unfold manyX at hx
    simp only [Bool.or_eq_true, decide_eq_true_eq, not_or] at hx
    omega

set_option maxRecDepth 100000 in
set_option maxHeartbeats 4000000 in
theorem many_any (cb : Nat) (oa : Option Addr) (c vb B : Nat) (L : List UInt8) (p : Nat) (bad : Bool) (w : World) (h : DS cb oa c vb B L w p bad) :
    Calls Tryd.prog 58 #[.pointer (some ⟨cb, 0, none⟩)] w fun e w' => e = .returned (.int .i64 (manyV L p : Nat)) ∧ DS cb oa c vb B L w' (numE L p) (bad || manyF L p) ∧ Tc cb w w' := by
  have hnum := num_any cb oa c vb B L p bad w h
  go_enter Tryd.func58, Tryd.ntmps58
  go_wp2_with fail
  refine hnum.mono ?_
  rintro e w1 ⟨rfl, hD, hT⟩
  have k0 : w1.cell? ⟨cb, 0, none⟩ = some (.slice oa L.length c) := cell_of_block hD.blk rfl
  have k1 : w1.cell? ⟨cb, 1, none⟩ = some (.int .i64 (numE L p : Nat)) := cell_of_block hD.blk rfl
  have k2 : w1.cell? ⟨cb, 2, none⟩ = some (.bool (bad || numF L p)) := cell_of_block hD.blk rfl
  have f2 : w1.frozen? ⟨cb, 2, none⟩ = false := frozen_of_block hD.blk
  have hlen := hD.len
  have hle := hD.le
  have hX : manyX L p = (decide (numV L p < 0) || decide ((L.length : Int) - (numE L p : Nat) < numV L p)) := rfl
  have hV : manyV L p = if manyX L p then 0 else (numV L p).toNat := rfl
  have hF : manyF L p = (numF L p || manyX L p) := rfl
  by_cases h0 : numV L p < 0
  · have hd0 : decide (numV L p < 0) = true := by simpa using h0
    have hx : manyX L p = true := by rw [hX, hd0]; rfl
    rw [if_pos hx] at hV
    rw [hx] at hF
    clear hX hx
    go_wp2_with (go_quiet (fail))
    go_ret
    refine ⟨by rw [hV]; rfl, ?_, ?_⟩
    · rw [hF, Bool.or_true, Bool.or_true]
      exact (hD.drewN _).fail
    · exact (hT.drewN _).setCell (p := ⟨cb, 2, none⟩) (Or.inl rfl) _
  · have hd0 : decide (numV L p < 0) = false := by simpa using h0
    have hsub : wrap64 ((L.length : Int) - (numE L p : Nat)) = (L.length : Int) - (numE L p : Nat) := by unfold wrap64; omega
    by_cases h1 : (L.length : Int) - (numE L p : Nat) < numV L p
    · have hd1 : decide (wrap64 ((L.length : Int) - (numE L p : Nat)) < numV L p) = true := by rw [hsub]; simpa using h1
      have hx : manyX L p = true := by rw [hX]; simp [h1]
      rw [if_pos hx] at hV
      rw [hx] at hF
      clear hX hx
      go_wp2_with (go_quiet (fail))
      go_ret
      refine ⟨by rw [hV]; rfl, ?_, ?_⟩
      · rw [hF, Bool.or_true, Bool.or_true]
        exact (hD.drewN _).fail
      · exact (hT.drewN _).setCell (p := ⟨cb, 2, none⟩) (Or.inl rfl) _
    · have hd1 : decide (wrap64 ((L.length : Int) - (numE L p : Nat)) < numV L p) = false := by rw [hsub]; simpa using h1
      have hx : manyX L p = false := by rw [hX]; simp [h0, h1]
      rw [if_neg (by rw [hx]; decide)] at hV
      rw [hx] at hF
      have hv' : ((manyV L p : Nat) : Int) = numV L p := by rw [hV]; omega
      clear hX hx hV
      go_wp2_with (go_quiet (fail))
      go_ret
      refine ⟨?_, ?_, hT.drewN _⟩
      · rw [hv']
        rfl
      · rw [hF, Bool.or_false]
        exact hD.drewN _

/-- The bytes between two places, as a text. -/
def sub (L : List UInt8) (q n : Nat) : ByteArray := ⟨((L.drop q).take n).toArray⟩
def txtV (L : List UInt8) (p : Nat) : ByteArray := sub L (numE L p) (manyV L p)
def txtE (L : List UInt8) (p : Nat) : Nat := numE L p + manyV L p
theorem conv_zero (w : World) (p : Option Addr) (c : Nat) : (convert 64 9 (.slice p 0 c)).run Tryd.prog w = .ok (.string ByteArray.empty) w := by
  rw [run_convert_bytes_string w 64 9 5 p 0 c Tryd.underlying64 Tryd.underlying5 Tryd.underlying9]
  cases p <;> simp [Conv.bytesToString, loadCells]
  all_goals rfl
theorem conv_sub (w : World) (oa : Option Addr) (L : List UInt8) (q n c : Nat) (hn : q + n ≤ L.length) (hrow : ∀ (k : Nat) (x : UInt8), L[k]? = some x → ∃ b o, oa = some ⟨b, o, none⟩ ∧ w.cell? ⟨b, o + k, none⟩ = some (bv x)) :
    (convert 64 9 (.slice (oa.map (fun x => x.add q)) n c)).run Tryd.prog w = .ok (.string (sub L q n)) w := by
  by_cases h0 : n = 0
  · subst h0
    rw [conv_zero]
    unfold sub
    rw [List.take_zero]
    rfl
  · obtain ⟨x, hx⟩ : ∃ x, L[q]? = some x := ⟨_, List.getElem?_eq_getElem (by omega)⟩
    obtain ⟨b, o, rfl, _⟩ := hrow q x hx
    have hlen : ((L.drop q).take n).length = n := by simp; omega
    have h := run_convert_bytes_back (P := Tryd.prog) w 64 9 5 ((⟨b, o, none⟩ : Addr).add q) c ((L.drop q).take n) Tryd.underlying64 Tryd.underlying5 Tryd.underlying9 (by
      intro j hj
      have hj' : j < n := by rw [hlen] at hj; exact hj
      have hg : L[q + j]? = some (((L.drop q).take n)[j]) := by
        rw [List.getElem_take, List.getElem_drop]
        exact List.getElem?_eq_getElem (by omega)
      obtain ⟨b', o', h1, h2⟩ := hrow (q + j) _ hg
      cases h1
      rw [Addr.add_lit, Addr.add_lit, Nat.add_assoc]
      exact h2)
    rw [hlen] at h
    exact h

set_option maxRecDepth 100000 in
set_option maxHeartbeats 4000000 in
theorem text_any (cb : Nat) (oa : Option Addr) (c vb B : Nat) (L : List UInt8) (p : Nat) (bad : Bool) (w : World) (h : DS cb oa c vb B L w p bad) :
    Calls Tryd.prog 54 #[.pointer (some ⟨cb, 0, none⟩)] w fun e w' => e = .returned (.string (txtV L p)) ∧ DS cb oa c vb B L w' (txtE L p) (bad || manyF L p) ∧ Tc cb w w' := by
  have hmany := many_any cb oa c vb B L p bad w h
  have hml := many_le L p h.le
  go_enter Tryd.func54, Tryd.ntmps54
  go_wp2_with fail
  refine hmany.mono ?_
  rintro e w1 ⟨rfl, hD, hT⟩
  have k0 : w1.cell? ⟨cb, 0, none⟩ = some (.slice oa L.length c) := cell_of_block hD.blk rfl
  have k1 : w1.cell? ⟨cb, 1, none⟩ = some (.int .i64 (numE L p : Nat)) := cell_of_block hD.blk rfl
  have f1 : w1.frozen? ⟨cb, 1, none⟩ = false := frozen_of_block hD.blk
  have hlen := hD.len
  have hcap := hD.cap
  have hadd : wrap64 (((numE L p : Nat) : Int) + ((manyV L p : Nat) : Int)) = ((numE L p + manyV L p : Nat) : Int) := by unfold wrap64; omega
  have i1 : (0 : Int) ≤ ((numE L p : Nat) : Int) := by omega
  have i2 : ((numE L p : Nat) : Int) ≤ ((numE L p + manyV L p : Nat) : Int) := by omega
  have i3 : ((numE L p + manyV L p : Nat) : Int) ≤ (c : Int) := by omega
  have hconv : ∀ (w' : World) (k : Nat), w'.heap = w1.heap → (convert 64 9 (.slice (oa.map (fun x => x.add (numE L p))) (manyV L p) k)).run Tryd.prog w' = .ok (.string (txtV L p)) w' := fun w' k hw => conv_sub w' oa L (numE L p) (manyV L p) k hml (fun k x hx => by
    obtain ⟨b, o, h1, _, _, h4⟩ := hD.row k x hx
    exact ⟨b, o, h1, (World.cell?_of_block (by rw [hw])).trans h4⟩)
  go_wp2_with fail
  go_still_tail 14, (by kernel_rfl)
  change wpList _ _ _ _ _ w1.drew
  have hc2 := fun k => hconv w1.drew k rfl
  have hD2 := hD.drew
  have hT2 := hT.drew
  generalize w1.drew = w2 at *
  clear hconv hD hT k0 k1 f1
  have k0 : w2.cell? ⟨cb, 0, none⟩ = some (.slice oa L.length c) := cell_of_block hD2.blk rfl
  have k1 : w2.cell? ⟨cb, 1, none⟩ = some (.int .i64 (numE L p : Nat)) := cell_of_block hD2.blk rfl
  have f1 : w2.frozen? ⟨cb, 1, none⟩ = false := frozen_of_block hD2.blk
  by_cases hcz : c = numE L p
  · have hm0 : manyV L p = 0 := by omega
    have hc3 : ∀ (a : Option Addr) (k : Nat), (convert 64 9 (.slice a 0 k)).run Tryd.prog w2 = .ok (.string (txtV L p)) w2 := by
      intro a k
      have e : txtV L p = ByteArray.empty := by
        unfold txtV sub
        rw [hm0, List.take_zero]
        rfl
      rw [e]
      exact conv_zero w2 a k
    clear hc2
    subst hcz
    go_wp2
    go_ret
    refine ⟨rfl, ?_, hT2.setCell (p := ⟨cb, 1, none⟩) (Or.inl rfl) _⟩
    have h := hD2.set (numE L p + manyV L p) hml
    rw [hm0, Nat.add_zero] at h
    have e2 : txtE L p = numE L p := by unfold txtE; rw [hm0, Nat.add_zero]
    rw [e2]
    exact h
  · go_wp2
    go_ret
    refine ⟨rfl, ?_, hT2.setCell (p := ⟨cb, 1, none⟩) (Or.inl rfl) _⟩
    have h := hD2.set (numE L p + manyV L p) hml
    rw [Int.natCast_add] at h
    exact h
end Go.Proofs.YthbkklnahhdgcaaDoor.DecC

/-
  What an image read from bytes is (3.3), as plain functions of the bytes, a place, and whether they were not so.
-/
namespace Go.Proofs.YthbkklnahhdgcaaDoor.DecD
open Go Go.Proofs Go.RowKit Lib CodeR CodeA CodeB CodeS CodeL EncA EncB DecA DecB DecC

abbrev Pr (α : Type) : Type := Nat → Bool → α × Nat × Bool
def nP (L : List UInt8) : Pr Int := fun p b => (numV L p, numE L p, b || numF L p)
def tP (L : List UInt8) : Pr ByteArray := fun p b => (txtV L p, txtE L p, b || manyF L p)
def rep {α : Type} (one : Pr α) : Nat → Pr (List α)
  | 0, p, b => ([], p, b)
  | n + 1, p, b => if b then ([], p, b) else ((one p b).1 :: (rep one n (one p b).2.1 (one p b).2.2).1, (rep one n (one p b).2.1 (one p b).2.2).2)
def lst {α : Type} (L : List UInt8) (one : Pr α) : Pr (List α) := fun p b => rep one (manyV L p) (numE L p) (b || manyF L p)
def bnd {α β : Type} (f : Pr α) (g : α → Pr β) : Pr β := fun p b => g (f p b).1 (f p b).2.1 (f p b).2.2
def ret {α : Type} (x : α) : Pr α := fun p b => (x, p, b)
def i3P (L : List UInt8) : Pr I3 := bnd (nP L) fun a => bnd (nP L) fun b => bnd (nP L) fun c => ret ⟨a, b, c⟩
def h3P (L : List UInt8) : Pr H3 := bnd (nP L) fun a => bnd (nP L) fun b => bnd (nP L) fun c => ret ⟨a, b, c⟩
def vrP (L : List UInt8) : Pr Vr := bnd (tP L) fun s => bnd (nP L) fun a => bnd (nP L) fun b => bnd (nP L) fun c => bnd (nP L) fun d => ret ⟨s, a, b, c, decide (d = 1)⟩
def cnP (L : List UInt8) : Pr Cn := bnd (nP L) fun k => if k = 0 then bnd (nP L) fun n => ret ⟨false, ByteArray.empty, n⟩ else if k = 1 then bnd (tP L) fun s => ret ⟨true, s, 0⟩ else fun p _ => (⟨false, ByteArray.empty, 0⟩, p, true)
def nmP (L : List UInt8) : Pr (ByteArray × Int) := bnd (tP L) fun s => bnd (nP L) fun n => ret (s, n)
def noSl : Sl := ⟨none, 0, 0, 0, 0⟩
def clP (L : List UInt8) : Pr Cl := bnd (tP L) fun s => bnd (nP L) fun a => bnd (lst L (tP L)) fun fs => bnd (lst L (nmP L)) fun ns => ret ⟨s, a, fs, ns.map (·.1), ns.map (·.2), noSl, noSl, noSl⟩
def fcP (L : List UInt8) : Pr Fc := bnd (tP L) fun s => bnd (nP L) fun a => bnd (nP L) fun b => bnd (lst L (i3P L)) fun cs => bnd (lst L (h3P L)) fun hs => bnd (lst L (vrP L)) fun vs => ret ⟨s, a, b, cs, hs, vs, noSl, noSl, noSl⟩
def imP (L : List UInt8) : Pr Im := bnd (lst L (cnP L)) fun cs => bnd (lst L (clP L)) fun ks => bnd (lst L (fcP L)) fun fs => ret ⟨fs, cs, ks, noSl, noSl, noSl⟩

theorem rep_zero {α : Type} (one : Pr α) (p : Nat) (b : Bool) : rep one 0 p b = ([], p, b) := rfl
theorem rep_bad {α : Type} (one : Pr α) (n p : Nat) : rep one n p true = ([], p, true) := by
  cases n <;> rfl
theorem rep_succ {α : Type} (one : Pr α) (n p : Nat) : rep one (n + 1) p false = ((one p false).1 :: (rep one n (one p false).2.1 (one p false).2.2).1, (rep one n (one p false).2.1 (one p false).2.2).2) := rfl
theorem many_len (L : List UInt8) (p : Nat) (hp : p ≤ L.length) : manyV L p ≤ L.length := by
  have := many_le L p hp
  omega

/-! ### rows of a function's and of a class's, the call's own -/
structure OwnFd (w : World) (f : Fc) : Prop where
  code : OR w 0 134 3 f.codeS.val (f.code.map I3.vals)
  hs : OR w 0 137 3 f.hsS.val (f.hs.map H3.vals)
  vars : OR w 0 140 5 f.varsS.val (f.vars.map Vr.vals)
  c1 : mkSl f.codeS.val = f.codeS
  c2 : mkSl f.hsS.val = f.hsS
  c3 : mkSl f.varsS.val = f.varsS
structure OwnCl (w : World) (k : Cl) : Prop where
  fields : OR w 0 9 1 k.fieldsS.val (k.fields.map fun s => [.string s])
  names : OR w 0 9 1 k.namesS.val (k.names.map fun s => [.string s])
  methods : OR w 0 3 1 k.methodsS.val (k.methods.map fun n => [.int .i64 n])
  c1 : mkSl k.fieldsS.val = k.fieldsS
  c2 : mkSl k.namesS.val = k.namesS
  c3 : mkSl k.methodsS.val = k.methodsS
/-- The blocks that such rows lie in stay. -/
def Stay (w w' : World) : Prop := ∀ (g : Nat) (cur : Array Value) (E : TypeId), (E = 134 ∨ E = 137 ∨ E = 140 ∨ E = 9 ∨ E = 3) → w.heap[g]? = some (Obj.cells cur E (0, 0)) → w'.heap[g]? = w.heap[g]?
theorem Stay.refl (w : World) : Stay w w := fun _ _ _ _ _ => rfl
theorem Stay.trans {a b c : World} (h : Stay a b) (k : Stay b c) : Stay a c := fun g cur E hE hg => (k g cur E hE ((h g cur E hE hg).trans hg)).trans (h g cur E hE hg)
theorem Stay.of_turned {w w' : World} {S : Nat → Prop} (h : Turned S w w') (hS : ∀ k, S k → ∃ cur E f, w.heap[k]? = some (.cells cur E f) ∧ E ≠ 134 ∧ E ≠ 137 ∧ E ≠ 140 ∧ E ≠ 9 ∧ E ≠ 3) : Stay w w' := by
  intro g cur E hE hg
  refine h.block g (lt_of_block hg) (fun hs => ?_)
  obtain ⟨cur', E', f, h1, h2⟩ := hS g hs
  rw [hg] at h1
  cases h1
  rcases hE with h | h | h | h | h
  · exact h2.1 h
  · exact h2.2.1 h
  · exact h2.2.2.1 h
  · exact h2.2.2.2.1 h
  · exact h2.2.2.2.2 h
theorem Stay.of_tc {cb : Nat} {oa : Option Addr} {c vb B : Nat} {L : List UInt8} {w w' : World} {p : Nat} {bad : Bool} (hD : DS cb oa c vb B L w p bad) (h : Tc cb w w') : Stay w w' :=
  Stay.of_turned h (fun k hk => by
    subst hk
    exact ⟨_, _, _, hD.blk, by decide, by decide, by decide, by decide, by decide⟩)
theorem own_stay {w w' : World} (hb : Stay w w') {base E sz : Nat} {v : Value} {rows : List (List Value)} (hE : E = 134 ∨ E = 137 ∨ E = 140 ∨ E = 9 ∨ E = 3) (h : OR w base E sz v rows) : OR w' base E sz v rows :=
  h.keep (fun g hg => by obtain ⟨cur, hc⟩ := own_block h hg; exact hb g cur E hE hc)
theorem OwnFd.stay {w w' : World} {f : Fc} (h : OwnFd w f) (hb : Stay w w') : OwnFd w' f :=
  ⟨own_stay hb (by decide) h.code, own_stay hb (by decide) h.hs, own_stay hb (by decide) h.vars, h.c1, h.c2, h.c3⟩
theorem OwnCl.stay {w w' : World} {f : Cl} (h : OwnCl w f) (hb : Stay w w') : OwnCl w' f :=
  ⟨own_stay hb (by decide) h.fields, own_stay hb (by decide) h.names, own_stay hb (by decide) h.methods, h.c1, h.c2, h.c3⟩
theorem OwnFd.fcIn {w : World} {f : Fc} (h : OwnFd w f) : FcIn w f := by
  have h1 := (h.code.mkIn (by intro r hr; obtain ⟨x, _, rfl⟩ := List.mem_map.mp hr; rfl)).2
  have h2 := (h.hs.mkIn (by intro r hr; obtain ⟨x, _, rfl⟩ := List.mem_map.mp hr; rfl)).2
  have h3 := (h.vars.mkIn (by intro r hr; obtain ⟨x, _, rfl⟩ := List.mem_map.mp hr; rfl)).2
  rw [h.c1] at h1
  rw [h.c2] at h2
  rw [h.c3] at h3
  exact ⟨h1, h2, h3⟩
theorem OwnCl.clIn {w : World} {f : Cl} (h : OwnCl w f) : ClIn w f := by
  have h1 := (h.fields.mkIn (by intro r hr; obtain ⟨x, _, rfl⟩ := List.mem_map.mp hr; rfl)).2
  have h2 := (h.names.mkIn (by intro r hr; obtain ⟨x, _, rfl⟩ := List.mem_map.mp hr; rfl)).2
  have h3 := (h.methods.mkIn (by intro r hr; obtain ⟨x, _, rfl⟩ := List.mem_map.mp hr; rfl)).2
  rw [h.c1] at h1
  rw [h.c2] at h2
  rw [h.c3] at h3
  exact ⟨h1, h2, h3⟩

theorem infoCn : (Tryd.prog.info? 68).map (fun i => (i.zero, i.size, i.bytes)) = some (some (.agg #[.bool false, .string ByteArray.empty, .int .i64 0]), 3, 32) := by kernel_rfl
theorem infoCl : (Tryd.prog.info? 63).map (fun i => (i.zero, i.size, i.bytes)) = some (some (.agg #[.string ByteArray.empty, .int .i64 0, .slice none 0 0, .slice none 0 0, .slice none 0 0]), 5, 96) := by kernel_rfl
theorem infoFc : (Tryd.prog.info? 112).map (fun i => (i.zero, i.size, i.bytes)) = some (some (.agg #[.string ByteArray.empty, .int .i64 0, .int .i64 0, .slice none 0 0, .slice none 0 0, .slice none 0 0]), 6, 104) := by kernel_rfl
theorem infoI3 : (Tryd.prog.info? 134).map (fun i => (i.zero, i.size, i.bytes)) = some (some (.agg #[.int .i64 0, .int .i64 0, .int .i64 0]), 3, 24) := by kernel_rfl
theorem infoH3 : (Tryd.prog.info? 137).map (fun i => (i.zero, i.size, i.bytes)) = some (some (.agg #[.int .i64 0, .int .i64 0, .int .i64 0]), 3, 24) := by kernel_rfl
theorem infoVr : (Tryd.prog.info? 140).map (fun i => (i.zero, i.size, i.bytes)) = some (some (.agg #[.string ByteArray.empty, .int .i64 0, .int .i64 0, .int .i64 0, .bool false]), 5, 48) := by kernel_rfl
theorem infoSt : (Tryd.prog.info? 9).map (fun i => (i.zero, i.size, i.bytes)) = some (some (.string ByteArray.empty), 1, 16) := by kernel_rfl
theorem infoIn : (Tryd.prog.info? 3).map (fun i => (i.zero, i.size, i.bytes)) = some (some (.int .i64 0), 1, 8) := by kernel_rfl
end Go.Proofs.YthbkklnahhdgcaaDoor.DecD
