/-
  Package code's list at one of its types: what it makes of the bytes.
-/
import Derived.Test.YthbkklnahhdgcaaDoorDME
namespace Go.Proofs.YthbkklnahhdgcaaDoor.DecLI3
open Go Go.Proofs Go.RowKit Lib CodeR CodeA CodeB CodeD CodeS CodeL EncA EncB DecA DecB DecC DecD

set_option maxRecDepth 100000 in
set_option maxHeartbeats 8000000 in
theorem list_any (cb : Nat) (oa : Option Addr) (c vb B : Nat) (L : List UInt8) (one : Pr I3)
    (hone : ∀ (p : Nat) (bad : Bool) (w : World), DS cb oa c vb B L w p bad → Calls Tryd.prog 62 #[.pointer (some ⟨vb, 0, none⟩)] w fun e w' => e = .returned (.agg #[.int .i64 ((one p bad).1).op, .int .i64 ((one p bad).1).a, .int .i64 ((one p bad).1).b]) ∧ DS cb oa c vb B L w' (one p bad).2.1 (one p bad).2.2 ∧ Tc cb w w')
    (p : Nat) (bad : Bool) (w : World) (h : DS cb oa c vb B L w p bad) :
    Calls Tryd.prog 61 #[.pointer (some ⟨cb, 0, none⟩), .func (Fn.func 62) #[] #[.pointer (some ⟨vb, 0, none⟩)]] w fun e w' => ∃ v, e = .returned v ∧ OR w' w.heap.size 134 3 v ((lst L one p bad).1.map I3.vals) ∧ DS cb oa c vb B L w' (lst L one p bad).2.1 (lst L one p bad).2.2 ∧ Tc cb w w' := by
  have hmany := many_any cb oa c vb B L p bad w h
  have hml := many_len L p h.le
  have hlen := h.len
  obtain ⟨i0, hi, hz0, hz1, hz2⟩ := info_parts infoI3
  go_enter Tryd.func61, Tryd.ntmps61
  go_wp2_with fail
  refine hmany.mono ?_
  rintro e w1 ⟨rfl, hD0, hT0⟩
  go_wp2_with fail
  go_loopw [5, 6] (fun s5 s6 wr => ∃ (n : Nat) (v : Value) (xs : List I3) (q : Nat) (bd : Bool), v = s5 ∧ s6 = .int .i64 (n : Int) ∧ OR wr w.heap.size 134 3 v (xs.map I3.vals) ∧ xs.length + n ≤ 100000 ∧ DS cb oa c vb B L wr q bd ∧ Tc cb w wr ∧ Aside (lst L one p bad = (xs ++ (rep one n q bd).1, (rep one n q bd).2))) (fun _ s6 _ => (intOf s6).toNat)
  case atStart => exact ⟨manyV L p, _, [], numE L p, bad || manyF L p, rfl, rfl, OR.nil _ _ _ _, by simp; omega, hD0, hT0, rfl⟩
  case round =>
    obtain ⟨n, v, xs, q, bd, rfl, rfl, hOR, hn, hD, hT, hA⟩ := hrel
    have k2 : wr.cell? ⟨cb, 2, none⟩ = some (.bool bd) := cell_of_block hD.blk rfl
    have hvn := own_one hOR
    cases n with
    | zero =>
      go_wp2
      go_ret
      refine ⟨v, rfl, by rw [hA.out, rep_zero]; simpa using hOR, by rw [hA.out, rep_zero]; exact hD, hT⟩
    | succ n =>
      have hdn : decide ((0 : Int) < ((n + 1 : Nat) : Int)) = true := by simp
      cases bd with
      | true =>
        go_wp2
        go_ret
        refine ⟨v, rfl, by rw [hA.out, rep_bad]; simpa using hOR, by rw [hA.out, rep_bad]; exact hD, hT⟩
      | false =>
        have hcall := hone q false wr hD
        go_wp2_with fail
        refine hcall.mono ?_
        rintro e w2 ⟨rfl, hD2, hT2⟩
        obtain ⟨x, hx⟩ : ∃ x, (one q false).1 = x := ⟨_, rfl⟩
        rw [hx]
        have hT3 := hT.trans hT2
        have hOR2 : OR w2 w.heap.size 134 3 v (xs.map I3.vals) := hOR.keep (fun g hg => by
          obtain ⟨cur, hc⟩ := own_block hOR hg
          refine hT2.block g (lt_of_block hc) (fun hk => ?_)
          subst hk
          have := hD.blk.symm.trans hc
          cases this)
        have hbw : w.heap.size ≤ w2.heap.size := hT3.size
        have hor : w2.ownsRow w.heap.size 134 3 v xs.length (xs.map I3.vals).flatten := by
          have h := hOR2
          unfold OR at h
          rw [List.length_map] at h
          exact h
        have hml2 : xs.length + 1 ≤ maxLen := by unfold maxLen; omega
        go_wp2_with (at_builtin; refine wpList_append_own _ rfl _ _ 108 rfl w.heap.size 134 i0 _ 3 24 Tryd.underlying108 hi hz0 hz1 hz2 rfl (by decide) _ _ _ rfl (hor.alloc _) ⟨w2.heap.size, 0, none⟩ 1 1 [.int .i64 x.op, .int .i64 x.a, .int .i64 x.b] rfl rfl (World.news_of_block (cs := #[.int .i64 x.op, .int .i64 x.a, .int .i64 x.b]) (t := 134) (fr := (0, 0)) (heap_alloc_new w2 _)) (by simp [Value.oneCell']) hml2 (by omega) (by simp; omega) ?_; intro v' w6 hown1 hgrow _; obtain ⟨gg, cap, rfl⟩ := own_form hown1)
        go_roundw
        case rel =>
          have hT6 : Tc cb w w6 := (hT3.alloc _).grown hgrow (fun k hk => Or.inr (own_base hor hk).1)
          have hB6 : Below w.heap.size w2 w6 := ⟨hgrow.os, hgrow.tape, hgrow.output, by have := hgrow.size; simp at this; omega, fun t ht => (hgrow.block t (by simp; omega) (fun h => by have := (own_base hor h.symm).1; omega)).trans (Below.heap_alloc w2 _ t (by omega))⟩
          have hD6 := hD2.keep (hB6.mono h.size)
          refine ⟨n, _, xs ++ [x], (one q false).2.1, (one q false).2.2, rfl, by simp, by
            unfold OR
            rw [List.length_map, List.length_append, List.length_singleton, List.map_append, List.flatten_append, List.map_singleton, List.flatten_singleton]
            exact hown1, by simp; omega, hD6, hT6, by show _ = _; rw [hA.out, rep_succ, hx]; simp⟩
        case measure => simp [intOf]
end Go.Proofs.YthbkklnahhdgcaaDoor.DecLI3

/-
  Package code's list at one of its types: what it makes of the bytes.
-/
namespace Go.Proofs.YthbkklnahhdgcaaDoor.DecLH3
open Go Go.Proofs Go.RowKit Lib CodeR CodeA CodeB CodeD CodeS CodeL EncA EncB DecA DecB DecC DecD

set_option maxRecDepth 100000 in
set_option maxHeartbeats 8000000 in
theorem list_any (cb : Nat) (oa : Option Addr) (c vb B : Nat) (L : List UInt8) (one : Pr H3)
    (hone : ∀ (p : Nat) (bad : Bool) (w : World), DS cb oa c vb B L w p bad → Calls Tryd.prog 64 #[.pointer (some ⟨vb, 0, none⟩)] w fun e w' => e = .returned (.agg #[.int .i64 ((one p bad).1).f, .int .i64 ((one p bad).1).t, .int .i64 ((one p bad).1).g]) ∧ DS cb oa c vb B L w' (one p bad).2.1 (one p bad).2.2 ∧ Tc cb w w')
    (p : Nat) (bad : Bool) (w : World) (h : DS cb oa c vb B L w p bad) :
    Calls Tryd.prog 63 #[.pointer (some ⟨cb, 0, none⟩), .func (Fn.func 64) #[] #[.pointer (some ⟨vb, 0, none⟩)]] w fun e w' => ∃ v, e = .returned v ∧ OR w' w.heap.size 137 3 v ((lst L one p bad).1.map H3.vals) ∧ DS cb oa c vb B L w' (lst L one p bad).2.1 (lst L one p bad).2.2 ∧ Tc cb w w' := by
  have hmany := many_any cb oa c vb B L p bad w h
  have hml := many_len L p h.le
  have hlen := h.len
  obtain ⟨i0, hi, hz0, hz1, hz2⟩ := info_parts infoH3
  go_enter Tryd.func63, Tryd.ntmps63
  go_wp2_with fail
  refine hmany.mono ?_
  rintro e w1 ⟨rfl, hD0, hT0⟩
  go_wp2_with fail
  go_loopw [5, 6] (fun s5 s6 wr => ∃ (n : Nat) (v : Value) (xs : List H3) (q : Nat) (bd : Bool), v = s5 ∧ s6 = .int .i64 (n : Int) ∧ OR wr w.heap.size 137 3 v (xs.map H3.vals) ∧ xs.length + n ≤ 100000 ∧ DS cb oa c vb B L wr q bd ∧ Tc cb w wr ∧ Aside (lst L one p bad = (xs ++ (rep one n q bd).1, (rep one n q bd).2))) (fun _ s6 _ => (intOf s6).toNat)
  case atStart => exact ⟨manyV L p, _, [], numE L p, bad || manyF L p, rfl, rfl, OR.nil _ _ _ _, by simp; omega, hD0, hT0, rfl⟩
  case round =>
    obtain ⟨n, v, xs, q, bd, rfl, rfl, hOR, hn, hD, hT, hA⟩ := hrel
    have k2 : wr.cell? ⟨cb, 2, none⟩ = some (.bool bd) := cell_of_block hD.blk rfl
    have hvn := own_one hOR
    cases n with
    | zero =>
      go_wp2
      go_ret
      refine ⟨v, rfl, by rw [hA.out, rep_zero]; simpa using hOR, by rw [hA.out, rep_zero]; exact hD, hT⟩
    | succ n =>
      have hdn : decide ((0 : Int) < ((n + 1 : Nat) : Int)) = true := by simp
      cases bd with
      | true =>
        go_wp2
        go_ret
        refine ⟨v, rfl, by rw [hA.out, rep_bad]; simpa using hOR, by rw [hA.out, rep_bad]; exact hD, hT⟩
      | false =>
        have hcall := hone q false wr hD
        go_wp2_with fail
        refine hcall.mono ?_
        rintro e w2 ⟨rfl, hD2, hT2⟩
        obtain ⟨x, hx⟩ : ∃ x, (one q false).1 = x := ⟨_, rfl⟩
        rw [hx]
        have hT3 := hT.trans hT2
        have hOR2 : OR w2 w.heap.size 137 3 v (xs.map H3.vals) := hOR.keep (fun g hg => by
          obtain ⟨cur, hc⟩ := own_block hOR hg
          refine hT2.block g (lt_of_block hc) (fun hk => ?_)
          subst hk
          have := hD.blk.symm.trans hc
          cases this)
        have hbw : w.heap.size ≤ w2.heap.size := hT3.size
        have hor : w2.ownsRow w.heap.size 137 3 v xs.length (xs.map H3.vals).flatten := by
          have h := hOR2
          unfold OR at h
          rw [List.length_map] at h
          exact h
        have hml2 : xs.length + 1 ≤ maxLen := by unfold maxLen; omega
        go_wp2_with (at_builtin; refine wpList_append_own _ rfl _ _ 109 rfl w.heap.size 137 i0 _ 3 24 Tryd.underlying109 hi hz0 hz1 hz2 rfl (by decide) _ _ _ rfl (hor.alloc _) ⟨w2.heap.size, 0, none⟩ 1 1 [.int .i64 x.f, .int .i64 x.t, .int .i64 x.g] rfl rfl (World.news_of_block (cs := #[.int .i64 x.f, .int .i64 x.t, .int .i64 x.g]) (t := 137) (fr := (0, 0)) (heap_alloc_new w2 _)) (by simp [Value.oneCell']) hml2 (by omega) (by simp; omega) ?_; intro v' w6 hown1 hgrow _; obtain ⟨gg, cap, rfl⟩ := own_form hown1)
        go_roundw
        case rel =>
          have hT6 : Tc cb w w6 := (hT3.alloc _).grown hgrow (fun k hk => Or.inr (own_base hor hk).1)
          have hB6 : Below w.heap.size w2 w6 := ⟨hgrow.os, hgrow.tape, hgrow.output, by have := hgrow.size; simp at this; omega, fun t ht => (hgrow.block t (by simp; omega) (fun h => by have := (own_base hor h.symm).1; omega)).trans (Below.heap_alloc w2 _ t (by omega))⟩
          have hD6 := hD2.keep (hB6.mono h.size)
          refine ⟨n, _, xs ++ [x], (one q false).2.1, (one q false).2.2, rfl, by simp, by
            unfold OR
            rw [List.length_map, List.length_append, List.length_singleton, List.map_append, List.flatten_append, List.map_singleton, List.flatten_singleton]
            exact hown1, by simp; omega, hD6, hT6, by show _ = _; rw [hA.out, rep_succ, hx]; simp⟩
        case measure => simp [intOf]
end Go.Proofs.YthbkklnahhdgcaaDoor.DecLH3

/-
  Package code's list at one of its types: what it makes of the bytes.
-/
namespace Go.Proofs.YthbkklnahhdgcaaDoor.DecLVr
open Go Go.Proofs Go.RowKit Lib CodeR CodeA CodeB CodeD CodeS CodeL EncA EncB DecA DecB DecC DecD

set_option maxRecDepth 100000 in
set_option maxHeartbeats 8000000 in
theorem list_any (cb : Nat) (oa : Option Addr) (c vb B : Nat) (L : List UInt8) (one : Pr Vr)
    (hone : ∀ (p : Nat) (bad : Bool) (w : World), DS cb oa c vb B L w p bad → Calls Tryd.prog 66 #[.pointer (some ⟨vb, 0, none⟩)] w fun e w' => e = .returned (.agg #[.string ((one p bad).1).name, .int .i64 ((one p bad).1).slot, .int .i64 ((one p bad).1).f, .int .i64 ((one p bad).1).t, .bool ((one p bad).1).boxed]) ∧ DS cb oa c vb B L w' (one p bad).2.1 (one p bad).2.2 ∧ Tc cb w w')
    (p : Nat) (bad : Bool) (w : World) (h : DS cb oa c vb B L w p bad) :
    Calls Tryd.prog 65 #[.pointer (some ⟨cb, 0, none⟩), .func (Fn.func 66) #[] #[.pointer (some ⟨vb, 0, none⟩)]] w fun e w' => ∃ v, e = .returned v ∧ OR w' w.heap.size 140 5 v ((lst L one p bad).1.map Vr.vals) ∧ DS cb oa c vb B L w' (lst L one p bad).2.1 (lst L one p bad).2.2 ∧ Tc cb w w' := by
  have hmany := many_any cb oa c vb B L p bad w h
  have hml := many_len L p h.le
  have hlen := h.len
  obtain ⟨i0, hi, hz0, hz1, hz2⟩ := info_parts infoVr
  go_enter Tryd.func65, Tryd.ntmps65
  go_wp2_with fail
  refine hmany.mono ?_
  rintro e w1 ⟨rfl, hD0, hT0⟩
  go_wp2_with fail
  go_loopw [5, 6] (fun s5 s6 wr => ∃ (n : Nat) (v : Value) (xs : List Vr) (q : Nat) (bd : Bool), v = s5 ∧ s6 = .int .i64 (n : Int) ∧ OR wr w.heap.size 140 5 v (xs.map Vr.vals) ∧ xs.length + n ≤ 100000 ∧ DS cb oa c vb B L wr q bd ∧ Tc cb w wr ∧ Aside (lst L one p bad = (xs ++ (rep one n q bd).1, (rep one n q bd).2))) (fun _ s6 _ => (intOf s6).toNat)
  case atStart => exact ⟨manyV L p, _, [], numE L p, bad || manyF L p, rfl, rfl, OR.nil _ _ _ _, by simp; omega, hD0, hT0, rfl⟩
  case round =>
    obtain ⟨n, v, xs, q, bd, rfl, rfl, hOR, hn, hD, hT, hA⟩ := hrel
    have k2 : wr.cell? ⟨cb, 2, none⟩ = some (.bool bd) := cell_of_block hD.blk rfl
    have hvn := own_one hOR
    cases n with
    | zero =>
      go_wp2
      go_ret
      refine ⟨v, rfl, by rw [hA.out, rep_zero]; simpa using hOR, by rw [hA.out, rep_zero]; exact hD, hT⟩
    | succ n =>
      have hdn : decide ((0 : Int) < ((n + 1 : Nat) : Int)) = true := by simp
      cases bd with
      | true =>
        go_wp2
        go_ret
        refine ⟨v, rfl, by rw [hA.out, rep_bad]; simpa using hOR, by rw [hA.out, rep_bad]; exact hD, hT⟩
      | false =>
        have hcall := hone q false wr hD
        go_wp2_with fail
        refine hcall.mono ?_
        rintro e w2 ⟨rfl, hD2, hT2⟩
        obtain ⟨x, hx⟩ : ∃ x, (one q false).1 = x := ⟨_, rfl⟩
        rw [hx]
        have hT3 := hT.trans hT2
        have hOR2 : OR w2 w.heap.size 140 5 v (xs.map Vr.vals) := hOR.keep (fun g hg => by
          obtain ⟨cur, hc⟩ := own_block hOR hg
          refine hT2.block g (lt_of_block hc) (fun hk => ?_)
          subst hk
          have := hD.blk.symm.trans hc
          cases this)
        have hbw : w.heap.size ≤ w2.heap.size := hT3.size
        have hor : w2.ownsRow w.heap.size 140 5 v xs.length (xs.map Vr.vals).flatten := by
          have h := hOR2
          unfold OR at h
          rw [List.length_map] at h
          exact h
        have hml2 : xs.length + 1 ≤ maxLen := by unfold maxLen; omega
        go_wp2_with (at_builtin; refine wpList_append_own _ rfl _ _ 110 rfl w.heap.size 140 i0 _ 5 48 Tryd.underlying110 hi hz0 hz1 hz2 rfl (by decide) _ _ _ rfl (hor.alloc _) ⟨w2.heap.size, 0, none⟩ 1 1 [.string x.name, .int .i64 x.slot, .int .i64 x.f, .int .i64 x.t, .bool x.boxed] rfl rfl (World.news_of_block (cs := #[.string x.name, .int .i64 x.slot, .int .i64 x.f, .int .i64 x.t, .bool x.boxed]) (t := 140) (fr := (0, 0)) (heap_alloc_new w2 _)) (by simp [Value.oneCell']) hml2 (by omega) (by simp; omega) ?_; intro v' w6 hown1 hgrow _; obtain ⟨gg, cap, rfl⟩ := own_form hown1)
        go_roundw
        case rel =>
          have hT6 : Tc cb w w6 := (hT3.alloc _).grown hgrow (fun k hk => Or.inr (own_base hor hk).1)
          have hB6 : Below w.heap.size w2 w6 := ⟨hgrow.os, hgrow.tape, hgrow.output, by have := hgrow.size; simp at this; omega, fun t ht => (hgrow.block t (by simp; omega) (fun h => by have := (own_base hor h.symm).1; omega)).trans (Below.heap_alloc w2 _ t (by omega))⟩
          have hD6 := hD2.keep (hB6.mono h.size)
          refine ⟨n, _, xs ++ [x], (one q false).2.1, (one q false).2.2, rfl, by simp, by
            unfold OR
            rw [List.length_map, List.length_append, List.length_singleton, List.map_append, List.flatten_append, List.map_singleton, List.flatten_singleton]
            exact hown1, by simp; omega, hD6, hT6, by show _ = _; rw [hA.out, rep_succ, hx]; simp⟩
        case measure => simp [intOf]
end Go.Proofs.YthbkklnahhdgcaaDoor.DecLVr

/-
  Package code's list at one of its types: what it makes of the bytes.
-/
namespace Go.Proofs.YthbkklnahhdgcaaDoor.DecLSt
open Go Go.Proofs Go.RowKit Lib CodeR CodeA CodeB CodeD CodeS CodeL EncA EncB DecA DecB DecC DecD

set_option maxRecDepth 100000 in
set_option maxHeartbeats 8000000 in
theorem list_any (cb : Nat) (oa : Option Addr) (c vb B : Nat) (L : List UInt8) (one : Pr ByteArray)
    (hone : ∀ (p : Nat) (bad : Bool) (w : World), DS cb oa c vb B L w p bad → Calls Tryd.prog 54 #[.pointer (some ⟨cb, 0, none⟩)] w fun e w' => e = .returned (.string ((one p bad).1)) ∧ DS cb oa c vb B L w' (one p bad).2.1 (one p bad).2.2 ∧ Tc cb w w')
    (p : Nat) (bad : Bool) (w : World) (h : DS cb oa c vb B L w p bad) :
    Calls Tryd.prog 57 #[.pointer (some ⟨cb, 0, none⟩), .func (Fn.func 54) #[.pointer (some ⟨cb, 0, none⟩)] #[]] w fun e w' => ∃ v, e = .returned v ∧ OR w' w.heap.size 9 1 v ((lst L one p bad).1.map (fun s => [Value.string s])) ∧ DS cb oa c vb B L w' (lst L one p bad).2.1 (lst L one p bad).2.2 ∧ Tc cb w w' := by
  have hmany := many_any cb oa c vb B L p bad w h
  have hml := many_len L p h.le
  have hlen := h.len
  obtain ⟨i0, hi, hz0, hz1, hz2⟩ := info_parts infoSt
  go_enter Tryd.func57, Tryd.ntmps57
  go_wp2_with fail
  refine hmany.mono ?_
  rintro e w1 ⟨rfl, hD0, hT0⟩
  go_wp2_with fail
  go_loopw [5, 6] (fun s5 s6 wr => ∃ (n : Nat) (v : Value) (xs : List ByteArray) (q : Nat) (bd : Bool), v = s5 ∧ s6 = .int .i64 (n : Int) ∧ OR wr w.heap.size 9 1 v (xs.map (fun s => [Value.string s])) ∧ xs.length + n ≤ 100000 ∧ DS cb oa c vb B L wr q bd ∧ Tc cb w wr ∧ Aside (lst L one p bad = (xs ++ (rep one n q bd).1, (rep one n q bd).2))) (fun _ s6 _ => (intOf s6).toNat)
  case atStart => exact ⟨manyV L p, _, [], numE L p, bad || manyF L p, rfl, rfl, OR.nil _ _ _ _, by simp; omega, hD0, hT0, rfl⟩
  case round =>
    obtain ⟨n, v, xs, q, bd, rfl, rfl, hOR, hn, hD, hT, hA⟩ := hrel
    have k2 : wr.cell? ⟨cb, 2, none⟩ = some (.bool bd) := cell_of_block hD.blk rfl
    have hvn := own_one hOR
    cases n with
    | zero =>
      go_wp2
      go_ret
      refine ⟨v, rfl, by rw [hA.out, rep_zero]; simpa using hOR, by rw [hA.out, rep_zero]; exact hD, hT⟩
    | succ n =>
      have hdn : decide ((0 : Int) < ((n + 1 : Nat) : Int)) = true := by simp
      cases bd with
      | true =>
        go_wp2
        go_ret
        refine ⟨v, rfl, by rw [hA.out, rep_bad]; simpa using hOR, by rw [hA.out, rep_bad]; exact hD, hT⟩
      | false =>
        have hcall := hone q false wr hD
        go_wp2_with fail
        refine hcall.mono ?_
        rintro e w2 ⟨rfl, hD2, hT2⟩
        obtain ⟨x, hx⟩ : ∃ x, (one q false).1 = x := ⟨_, rfl⟩
        rw [hx]
        have hT3 := hT.trans hT2
        have hOR2 : OR w2 w.heap.size 9 1 v (xs.map (fun s => [Value.string s])) := hOR.keep (fun g hg => by
          obtain ⟨cur, hc⟩ := own_block hOR hg
          refine hT2.block g (lt_of_block hc) (fun hk => ?_)
          subst hk
          have := hD.blk.symm.trans hc
          cases this)
        have hbw : w.heap.size ≤ w2.heap.size := hT3.size
        have hor : w2.ownsRow w.heap.size 9 1 v xs.length (xs.map (fun s => [Value.string s])).flatten := by
          have h := hOR2
          unfold OR at h
          rw [List.length_map] at h
          exact h
        have hml2 : xs.length + 1 ≤ maxLen := by unfold maxLen; omega
        go_wp2_with (at_builtin; refine wpList_append_own _ rfl _ _ 61 rfl w.heap.size 9 i0 _ 1 16 Tryd.underlying61 hi hz0 hz1 hz2 rfl (by decide) _ _ _ rfl (hor.alloc _) ⟨w2.heap.size, 0, none⟩ 1 1 [.string x] rfl rfl (World.news_of_block (cs := #[.string x]) (t := 9) (fr := (0, 0)) (heap_alloc_new w2 _)) (by simp [Value.oneCell']) hml2 (by omega) (by simp; omega) ?_; intro v' w6 hown1 hgrow _; obtain ⟨gg, cap, rfl⟩ := own_form hown1)
        go_roundw
        case rel =>
          have hT6 : Tc cb w w6 := (hT3.alloc _).grown hgrow (fun k hk => Or.inr (own_base hor hk).1)
          have hB6 : Below w.heap.size w2 w6 := ⟨hgrow.os, hgrow.tape, hgrow.output, by have := hgrow.size; simp at this; omega, fun t ht => (hgrow.block t (by simp; omega) (fun h => by have := (own_base hor h.symm).1; omega)).trans (Below.heap_alloc w2 _ t (by omega))⟩
          have hD6 := hD2.keep (hB6.mono h.size)
          refine ⟨n, _, xs ++ [x], (one q false).2.1, (one q false).2.2, rfl, by simp, by
            unfold OR
            rw [List.length_map, List.length_append, List.length_singleton, List.map_append, List.flatten_append, List.map_singleton, List.flatten_singleton]
            exact hown1, by simp; omega, hD6, hT6, by show _ = _; rw [hA.out, rep_succ, hx]; simp⟩
        case measure => simp [intOf]
end Go.Proofs.YthbkklnahhdgcaaDoor.DecLSt

/-
  Package code's list at one of its types: what it makes of the bytes.
-/
namespace Go.Proofs.YthbkklnahhdgcaaDoor.DecLCn
open Go Go.Proofs Go.RowKit Lib CodeR CodeA CodeB CodeD CodeS CodeL EncA EncB DecA DecB DecC DecD

set_option maxRecDepth 100000 in
set_option maxHeartbeats 8000000 in
theorem list_any (cb : Nat) (oa : Option Addr) (c vb B : Nat) (L : List UInt8) (one : Pr Cn)
    (hone : ∀ (p : Nat) (bad : Bool) (w : World), DS cb oa c vb B L w p bad → Calls Tryd.prog 52 #[.pointer (some ⟨vb, 0, none⟩)] w fun e w' => e = .returned (.agg #[.bool ((one p bad).1).text, .string ((one p bad).1).s, .int .i64 ((one p bad).1).n]) ∧ DS cb oa c vb B L w' (one p bad).2.1 (one p bad).2.2 ∧ Tc cb w w')
    (p : Nat) (bad : Bool) (w : World) (h : DS cb oa c vb B L w p bad) :
    Calls Tryd.prog 51 #[.pointer (some ⟨cb, 0, none⟩), .func (Fn.func 52) #[] #[.pointer (some ⟨vb, 0, none⟩)]] w fun e w' => ∃ v, e = .returned v ∧ OR w' w.heap.size 68 3 v ((lst L one p bad).1.map Cn.vals) ∧ DS cb oa c vb B L w' (lst L one p bad).2.1 (lst L one p bad).2.2 ∧ Tc cb w w' := by
  have hmany := many_any cb oa c vb B L p bad w h
  have hml := many_len L p h.le
  have hlen := h.len
  obtain ⟨i0, hi, hz0, hz1, hz2⟩ := info_parts infoCn
  go_enter Tryd.func51, Tryd.ntmps51
  go_wp2_with fail
  refine hmany.mono ?_
  rintro e w1 ⟨rfl, hD0, hT0⟩
  go_wp2_with fail
  go_loopw [5, 6] (fun s5 s6 wr => ∃ (n : Nat) (v : Value) (xs : List Cn) (q : Nat) (bd : Bool), v = s5 ∧ s6 = .int .i64 (n : Int) ∧ OR wr w.heap.size 68 3 v (xs.map Cn.vals) ∧ xs.length + n ≤ 100000 ∧ DS cb oa c vb B L wr q bd ∧ Tc cb w wr ∧ Aside (lst L one p bad = (xs ++ (rep one n q bd).1, (rep one n q bd).2))) (fun _ s6 _ => (intOf s6).toNat)
  case atStart => exact ⟨manyV L p, _, [], numE L p, bad || manyF L p, rfl, rfl, OR.nil _ _ _ _, by simp; omega, hD0, hT0, rfl⟩
  case round =>
    obtain ⟨n, v, xs, q, bd, rfl, rfl, hOR, hn, hD, hT, hA⟩ := hrel
    have k2 : wr.cell? ⟨cb, 2, none⟩ = some (.bool bd) := cell_of_block hD.blk rfl
    have hvn := own_one hOR
    cases n with
    | zero =>
      go_wp2
      go_ret
      refine ⟨v, rfl, by rw [hA.out, rep_zero]; simpa using hOR, by rw [hA.out, rep_zero]; exact hD, hT⟩
    | succ n =>
      have hdn : decide ((0 : Int) < ((n + 1 : Nat) : Int)) = true := by simp
      cases bd with
      | true =>
        go_wp2
        go_ret
        refine ⟨v, rfl, by rw [hA.out, rep_bad]; simpa using hOR, by rw [hA.out, rep_bad]; exact hD, hT⟩
      | false =>
        have hcall := hone q false wr hD
        go_wp2_with fail
        refine hcall.mono ?_
        rintro e w2 ⟨rfl, hD2, hT2⟩
        obtain ⟨x, hx⟩ : ∃ x, (one q false).1 = x := ⟨_, rfl⟩
        rw [hx]
        have hT3 := hT.trans hT2
        have hOR2 : OR w2 w.heap.size 68 3 v (xs.map Cn.vals) := hOR.keep (fun g hg => by
          obtain ⟨cur, hc⟩ := own_block hOR hg
          refine hT2.block g (lt_of_block hc) (fun hk => ?_)
          subst hk
          have := hD.blk.symm.trans hc
          cases this)
        have hbw : w.heap.size ≤ w2.heap.size := hT3.size
        have hor : w2.ownsRow w.heap.size 68 3 v xs.length (xs.map Cn.vals).flatten := by
          have h := hOR2
          unfold OR at h
          rw [List.length_map] at h
          exact h
        have hml2 : xs.length + 1 ≤ maxLen := by unfold maxLen; omega
        go_wp2_with (at_builtin; refine wpList_append_own _ rfl _ _ 39 rfl w.heap.size 68 i0 _ 3 32 Tryd.underlying39 hi hz0 hz1 hz2 rfl (by decide) _ _ _ rfl (hor.alloc _) ⟨w2.heap.size, 0, none⟩ 1 1 [.bool x.text, .string x.s, .int .i64 x.n] rfl rfl (World.news_of_block (cs := #[.bool x.text, .string x.s, .int .i64 x.n]) (t := 68) (fr := (0, 0)) (heap_alloc_new w2 _)) (by simp [Value.oneCell']) hml2 (by omega) (by simp; omega) ?_; intro v' w6 hown1 hgrow _; obtain ⟨gg, cap, rfl⟩ := own_form hown1)
        go_roundw
        case rel =>
          have hT6 : Tc cb w w6 := (hT3.alloc _).grown hgrow (fun k hk => Or.inr (own_base hor hk).1)
          have hB6 : Below w.heap.size w2 w6 := ⟨hgrow.os, hgrow.tape, hgrow.output, by have := hgrow.size; simp at this; omega, fun t ht => (hgrow.block t (by simp; omega) (fun h => by have := (own_base hor h.symm).1; omega)).trans (Below.heap_alloc w2 _ t (by omega))⟩
          have hD6 := hD2.keep (hB6.mono h.size)
          refine ⟨n, _, xs ++ [x], (one q false).2.1, (one q false).2.2, rfl, by simp, by
            unfold OR
            rw [List.length_map, List.length_append, List.length_singleton, List.map_append, List.flatten_append, List.map_singleton, List.flatten_singleton]
            exact hown1, by simp; omega, hD6, hT6, by show _ = _; rw [hA.out, rep_succ, hx]; simp⟩
        case measure => simp [intOf]
end Go.Proofs.YthbkklnahhdgcaaDoor.DecLCn

/-
  Package code's list at one of its types: what it makes of the bytes.
-/
namespace Go.Proofs.YthbkklnahhdgcaaDoor.DecLCl
open Go Go.Proofs Go.RowKit Lib CodeR CodeA CodeB CodeD CodeS CodeL EncA EncB DecA DecB DecC DecD

set_option maxRecDepth 100000 in
set_option maxHeartbeats 8000000 in
theorem list_any (cb : Nat) (oa : Option Addr) (c vb B : Nat) (L : List UInt8) (Rel : Cl → Cl → Prop) (In : World → Cl → Prop) (hst : ∀ w w' x, In w x → Stay w w' → In w' x) (one : Pr Cl)
    (hone : ∀ (p : Nat) (bad : Bool) (w : World), DS cb oa c vb B L w p bad → Calls Tryd.prog 56 #[.pointer (some ⟨vb, 0, none⟩)] w fun e w' => ∃ x : Cl, e = .returned (.agg #[.string x.name, .int .i64 x.above, .slice x.fieldsS.oa x.fieldsS.n x.fieldsS.c, .slice x.namesS.oa x.namesS.n x.namesS.c, .slice x.methodsS.oa x.methodsS.n x.methodsS.c]) ∧ Rel (one p bad).1 x ∧ In w' x ∧ DS cb oa c vb B L w' (one p bad).2.1 (one p bad).2.2 ∧ Tc cb w w')
    (p : Nat) (bad : Bool) (w : World) (h : DS cb oa c vb B L w p bad) :
    Calls Tryd.prog 55 #[.pointer (some ⟨cb, 0, none⟩), .func (Fn.func 56) #[] #[.pointer (some ⟨vb, 0, none⟩)]] w fun e w' => ∃ v xs, e = .returned v ∧ OR w' w.heap.size 63 5 v (xs.map Cl.vals) ∧ (∀ x ∈ xs, In w' x) ∧ All2 Rel (lst L one p bad).1 xs ∧ DS cb oa c vb B L w' (lst L one p bad).2.1 (lst L one p bad).2.2 ∧ Tc cb w w' := by
  have hmany := many_any cb oa c vb B L p bad w h
  have hml := many_len L p h.le
  have hlen := h.len
  obtain ⟨i0, hi, hz0, hz1, hz2⟩ := info_parts infoCl
  go_enter Tryd.func55, Tryd.ntmps55
  go_wp2_with fail
  refine hmany.mono ?_
  rintro e w1 ⟨rfl, hD0, hT0⟩
  go_wp2_with fail
  go_loopw [5, 6] (fun s5 s6 wr => ∃ (n : Nat) (v : Value) (xs ys : List Cl) (q : Nat) (bd : Bool), v = s5 ∧ s6 = .int .i64 (n : Int) ∧ OR wr w.heap.size 63 5 v (xs.map Cl.vals) ∧ xs.length + n ≤ 100000 ∧ (∀ x ∈ xs, In wr x) ∧ All2 Rel ys xs ∧ DS cb oa c vb B L wr q bd ∧ Tc cb w wr ∧ Aside (lst L one p bad = (ys ++ (rep one n q bd).1, (rep one n q bd).2))) (fun _ s6 _ => (intOf s6).toNat)
  case atStart => exact ⟨manyV L p, _, [], [], numE L p, bad || manyF L p, rfl, rfl, OR.nil _ _ _ _, by simp; omega, (fun x hx => by cases hx), .nil, hD0, hT0, rfl⟩
  case round =>
    obtain ⟨n, v, xs, ys, q, bd, rfl, rfl, hOR, hn, hIn, hAll, hD, hT, hA⟩ := hrel
    have k2 : wr.cell? ⟨cb, 2, none⟩ = some (.bool bd) := cell_of_block hD.blk rfl
    have hvn := own_one hOR
    cases n with
    | zero =>
      go_wp2
      go_ret
      refine ⟨v, xs, rfl, hOR, hIn, by rw [hA.out, rep_zero]; simpa using hAll, by rw [hA.out, rep_zero]; exact hD, hT⟩
    | succ n =>
      have hdn : decide ((0 : Int) < ((n + 1 : Nat) : Int)) = true := by simp
      cases bd with
      | true =>
        go_wp2
        go_ret
        refine ⟨v, xs, rfl, hOR, hIn, by rw [hA.out, rep_bad]; simpa using hAll, by rw [hA.out, rep_bad]; exact hD, hT⟩
      | false =>
        have hcall := hone q false wr hD
        go_wp2_with fail
        refine hcall.mono ?_
        rintro e w2 ⟨x, rfl, hR, hInx, hD2, hT2⟩
        have hT3 := hT.trans hT2
        have hOR2 : OR w2 w.heap.size 63 5 v (xs.map Cl.vals) := hOR.keep (fun g hg => by
          obtain ⟨cur, hc⟩ := own_block hOR hg
          refine hT2.block g (lt_of_block hc) (fun hk => ?_)
          subst hk
          have := hD.blk.symm.trans hc
          cases this)
        have hS1 : Stay wr w2 := Stay.of_tc hD hT2
        have hbw : w.heap.size ≤ w2.heap.size := hT3.size
        have hor : w2.ownsRow w.heap.size 63 5 v xs.length (xs.map Cl.vals).flatten := by
          have h := hOR2
          unfold OR at h
          rw [List.length_map] at h
          exact h
        have hml2 : xs.length + 1 ≤ maxLen := by unfold maxLen; omega
        go_wp2_with (at_builtin; refine wpList_append_own _ rfl _ _ 40 rfl w.heap.size 63 i0 _ 5 96 Tryd.underlying40 hi hz0 hz1 hz2 rfl (by decide) _ _ _ rfl (hor.alloc _) ⟨w2.heap.size, 0, none⟩ 1 1 [.string x.name, .int .i64 x.above, .slice x.fieldsS.oa x.fieldsS.n x.fieldsS.c, .slice x.namesS.oa x.namesS.n x.namesS.c, .slice x.methodsS.oa x.methodsS.n x.methodsS.c] rfl rfl (World.news_of_block (cs := #[.string x.name, .int .i64 x.above, .slice x.fieldsS.oa x.fieldsS.n x.fieldsS.c, .slice x.namesS.oa x.namesS.n x.namesS.c, .slice x.methodsS.oa x.methodsS.n x.methodsS.c]) (t := 63) (fr := (0, 0)) (heap_alloc_new w2 _)) (by simp [Value.oneCell']) hml2 (by omega) (by simp; omega) ?_; intro v' w6 hown1 hgrow _; obtain ⟨gg, cap, rfl⟩ := own_form hown1)
        go_roundw
        case rel =>
          have hT6 : Tc cb w w6 := (hT3.alloc _).grown hgrow (fun k hk => Or.inr (own_base hor hk).1)
          have hB6 : Below w.heap.size w2 w6 := ⟨hgrow.os, hgrow.tape, hgrow.output, by have := hgrow.size; simp at this; omega, fun t ht => (hgrow.block t (by simp; omega) (fun h => by have := (own_base hor h.symm).1; omega)).trans (Below.heap_alloc w2 _ t (by omega))⟩
          have hD6 := hD2.keep (hB6.mono h.size)
          have hS6 : Stay w2 w6 := by
            intro g cur E hE hg
            refine (hgrow.block g (by have := lt_of_block hg; simp; omega) (fun hk => ?_)).trans (Below.heap_alloc w2 _ g (lt_of_block hg))
            obtain ⟨cur', hc⟩ := own_block hor hk.symm
            rw [hg] at hc
            cases hc
            revert hE
            decide
          refine ⟨n, _, xs ++ [x], ys ++ [(one q false).1], (one q false).2.1, (one q false).2.2, rfl, by simp, by
            unfold OR
            rw [List.length_map, List.length_append, List.length_singleton, List.map_append, List.flatten_append, List.map_singleton, List.flatten_singleton]
            exact hown1, by simp; omega, ?_, hAll.snoc hR, hD6, hT6, by show _ = _; rw [hA.out, rep_succ]; simp⟩
          intro y hy
          rcases List.mem_append.mp hy with hy | hy
          · exact hst _ _ _ (hIn y hy) (hS1.trans hS6)
          · rw [List.mem_singleton.mp hy]
            exact hst _ _ _ hInx hS6
        case measure => simp [intOf]
end Go.Proofs.YthbkklnahhdgcaaDoor.DecLCl

/-
  Package code's list at one of its types: what it makes of the bytes.
-/
namespace Go.Proofs.YthbkklnahhdgcaaDoor.DecLFc
open Go Go.Proofs Go.RowKit Lib CodeR CodeA CodeB CodeD CodeS CodeL EncA EncB DecA DecB DecC DecD

set_option maxRecDepth 100000 in
set_option maxHeartbeats 8000000 in
theorem list_any (cb : Nat) (oa : Option Addr) (c vb B : Nat) (L : List UInt8) (Rel : Fc → Fc → Prop) (In : World → Fc → Prop) (hst : ∀ w w' x, In w x → Stay w w' → In w' x) (one : Pr Fc)
    (hone : ∀ (p : Nat) (bad : Bool) (w : World), DS cb oa c vb B L w p bad → Calls Tryd.prog 60 #[.pointer (some ⟨vb, 0, none⟩)] w fun e w' => ∃ x : Fc, e = .returned (.agg #[.string x.name, .int .i64 x.params, .int .i64 x.slots, .slice x.codeS.oa x.codeS.n x.codeS.c, .slice x.hsS.oa x.hsS.n x.hsS.c, .slice x.varsS.oa x.varsS.n x.varsS.c]) ∧ Rel (one p bad).1 x ∧ In w' x ∧ DS cb oa c vb B L w' (one p bad).2.1 (one p bad).2.2 ∧ Tc cb w w')
    (p : Nat) (bad : Bool) (w : World) (h : DS cb oa c vb B L w p bad) :
    Calls Tryd.prog 59 #[.pointer (some ⟨cb, 0, none⟩), .func (Fn.func 60) #[] #[.pointer (some ⟨vb, 0, none⟩)]] w fun e w' => ∃ v xs, e = .returned v ∧ OR w' w.heap.size 112 6 v (xs.map Fc.vals) ∧ (∀ x ∈ xs, In w' x) ∧ All2 Rel (lst L one p bad).1 xs ∧ DS cb oa c vb B L w' (lst L one p bad).2.1 (lst L one p bad).2.2 ∧ Tc cb w w' := by
  have hmany := many_any cb oa c vb B L p bad w h
  have hml := many_len L p h.le
  have hlen := h.len
  obtain ⟨i0, hi, hz0, hz1, hz2⟩ := info_parts infoFc
  go_enter Tryd.func59, Tryd.ntmps59
  go_wp2_with fail
  refine hmany.mono ?_
  rintro e w1 ⟨rfl, hD0, hT0⟩
  go_wp2_with fail
  go_loopw [5, 6] (fun s5 s6 wr => ∃ (n : Nat) (v : Value) (xs ys : List Fc) (q : Nat) (bd : Bool), v = s5 ∧ s6 = .int .i64 (n : Int) ∧ OR wr w.heap.size 112 6 v (xs.map Fc.vals) ∧ xs.length + n ≤ 100000 ∧ (∀ x ∈ xs, In wr x) ∧ All2 Rel ys xs ∧ DS cb oa c vb B L wr q bd ∧ Tc cb w wr ∧ Aside (lst L one p bad = (ys ++ (rep one n q bd).1, (rep one n q bd).2))) (fun _ s6 _ => (intOf s6).toNat)
  case atStart => exact ⟨manyV L p, _, [], [], numE L p, bad || manyF L p, rfl, rfl, OR.nil _ _ _ _, by simp; omega, (fun x hx => by cases hx), .nil, hD0, hT0, rfl⟩
  case round =>
    obtain ⟨n, v, xs, ys, q, bd, rfl, rfl, hOR, hn, hIn, hAll, hD, hT, hA⟩ := hrel
    have k2 : wr.cell? ⟨cb, 2, none⟩ = some (.bool bd) := cell_of_block hD.blk rfl
    have hvn := own_one hOR
    cases n with
    | zero =>
      go_wp2
      go_ret
      refine ⟨v, xs, rfl, hOR, hIn, by rw [hA.out, rep_zero]; simpa using hAll, by rw [hA.out, rep_zero]; exact hD, hT⟩
    | succ n =>
      have hdn : decide ((0 : Int) < ((n + 1 : Nat) : Int)) = true := by simp
      cases bd with
      | true =>
        go_wp2
        go_ret
        refine ⟨v, xs, rfl, hOR, hIn, by rw [hA.out, rep_bad]; simpa using hAll, by rw [hA.out, rep_bad]; exact hD, hT⟩
      | false =>
        have hcall := hone q false wr hD
        go_wp2_with fail
        refine hcall.mono ?_
        rintro e w2 ⟨x, rfl, hR, hInx, hD2, hT2⟩
        have hT3 := hT.trans hT2
        have hOR2 : OR w2 w.heap.size 112 6 v (xs.map Fc.vals) := hOR.keep (fun g hg => by
          obtain ⟨cur, hc⟩ := own_block hOR hg
          refine hT2.block g (lt_of_block hc) (fun hk => ?_)
          subst hk
          have := hD.blk.symm.trans hc
          cases this)
        have hS1 : Stay wr w2 := Stay.of_tc hD hT2
        have hbw : w.heap.size ≤ w2.heap.size := hT3.size
        have hor : w2.ownsRow w.heap.size 112 6 v xs.length (xs.map Fc.vals).flatten := by
          have h := hOR2
          unfold OR at h
          rw [List.length_map] at h
          exact h
        have hml2 : xs.length + 1 ≤ maxLen := by unfold maxLen; omega
        go_wp2_with (at_builtin; refine wpList_append_own _ rfl _ _ 38 rfl w.heap.size 112 i0 _ 6 104 Tryd.underlying38 hi hz0 hz1 hz2 rfl (by decide) _ _ _ rfl (hor.alloc _) ⟨w2.heap.size, 0, none⟩ 1 1 [.string x.name, .int .i64 x.params, .int .i64 x.slots, .slice x.codeS.oa x.codeS.n x.codeS.c, .slice x.hsS.oa x.hsS.n x.hsS.c, .slice x.varsS.oa x.varsS.n x.varsS.c] rfl rfl (World.news_of_block (cs := #[.string x.name, .int .i64 x.params, .int .i64 x.slots, .slice x.codeS.oa x.codeS.n x.codeS.c, .slice x.hsS.oa x.hsS.n x.hsS.c, .slice x.varsS.oa x.varsS.n x.varsS.c]) (t := 112) (fr := (0, 0)) (heap_alloc_new w2 _)) (by simp [Value.oneCell']) hml2 (by omega) (by simp; omega) ?_; intro v' w6 hown1 hgrow _; obtain ⟨gg, cap, rfl⟩ := own_form hown1)
        go_roundw
        case rel =>
          have hT6 : Tc cb w w6 := (hT3.alloc _).grown hgrow (fun k hk => Or.inr (own_base hor hk).1)
          have hB6 : Below w.heap.size w2 w6 := ⟨hgrow.os, hgrow.tape, hgrow.output, by have := hgrow.size; simp at this; omega, fun t ht => (hgrow.block t (by simp; omega) (fun h => by have := (own_base hor h.symm).1; omega)).trans (Below.heap_alloc w2 _ t (by omega))⟩
          have hD6 := hD2.keep (hB6.mono h.size)
          have hS6 : Stay w2 w6 := by
            intro g cur E hE hg
            refine (hgrow.block g (by have := lt_of_block hg; simp; omega) (fun hk => ?_)).trans (Below.heap_alloc w2 _ g (lt_of_block hg))
            obtain ⟨cur', hc⟩ := own_block hor hk.symm
            rw [hg] at hc
            cases hc
            revert hE
            decide
          refine ⟨n, _, xs ++ [x], ys ++ [(one q false).1], (one q false).2.1, (one q false).2.2, rfl, by simp, by
            unfold OR
            rw [List.length_map, List.length_append, List.length_singleton, List.map_append, List.flatten_append, List.map_singleton, List.flatten_singleton]
            exact hown1, by simp; omega, ?_, hAll.snoc hR, hD6, hT6, by show _ = _; rw [hA.out, rep_succ]; simp⟩
          intro y hy
          rcases List.mem_append.mp hy with hy | hy
          · exact hst _ _ _ (hIn y hy) (hS1.trans hS6)
          · rw [List.mem_singleton.mp hy]
            exact hst _ _ _ hInx hS6
        case measure => simp [intOf]
end Go.Proofs.YthbkklnahhdgcaaDoor.DecLFc
