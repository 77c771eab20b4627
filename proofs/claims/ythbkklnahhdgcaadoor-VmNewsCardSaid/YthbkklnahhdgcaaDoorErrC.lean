/-
  What an error tells: api.Tell, plain.Place, and the laws' at and bare, each at nil, at an Errno, and at an At.
-/
import Derived.Test.YthbkklnahhdgcaaDoorErrB
import Derived.BigQuiet
namespace Go.Proofs.YthbkklnahhdgcaaDoor.ErrC
open Go Go.RowKit Go.Proofs.YthbkklnahhdgcaaDoor.Lib Go.Proofs.YthbkklnahhdgcaaDoor.ErrB

/-- The one package-level variable that errors.As reads. -/
def EtIs (w : World) : Prop := w.cell? ⟨1, 0, none⟩ = some (.iface 256 (.agg #[.pointer (some ⟨5, 24, none⟩)]))

theorem tell_nil (w : World) : Calls Tryd.prog 68 #[.nilIface] w fun e w' => e = .returned (.int .i64 0) ∧ w' = w := by
  go_enter Tryd.func68, Tryd.ntmps68
  go_wp2
  go_ret
  exact ⟨rfl, rfl⟩

set_option maxRecDepth 100000 in
set_option maxHeartbeats 1000000 in
theorem tell_errno (n : Int) (w : World) (hg : EtIs w) :
    Calls Tryd.prog 68 #[.iface 35 (.int .i64 n)] w fun e w' => e = .returned (.int .i64 n) ∧ Below w.heap.size w w' := by
  have hlt : 1 < w.heap.size := World.block_lt_of_cell? w _ hg
  have hgA : EtIs (w.alloc (.cells #[.int .i64 0] 35)) := by
    unfold EtIs; rw [World.cell?_alloc_lt _ _ ⟨1, 0, none⟩ hlt]; exact hg
  go_enter Tryd.func68, Tryd.ntmps68
  go_wp2_with (go_at_call 88; refine (as_errno n _ (.int .i64 0) _ hgA (by simp) (by simp)).mono ?_; rintro e w' ⟨rfl, rfl⟩)
  go_ret
  refine ⟨?_, ?_⟩
  · simp
  · repeat (refine Below.alloc ?_ (by first | exact Nat.le_refl _ | (simp; done) | (simp; omega)) _)
    exact Below.refl _ _

set_option maxRecDepth 100000 in
set_option maxHeartbeats 1000000 in
theorem tell_at (n : Int) (p : Addr) (w : World) (hp : w.cell? p = some (.int .i64 n)) (hg : EtIs w) :
    Calls Tryd.prog 68 #[.iface 117 (.pointer (some p))] w fun e w' => e = .returned (.int .i64 n) ∧ Below w.heap.size w w' := by
  have hlt : 1 < w.heap.size := World.block_lt_of_cell? w _ hg
  have hpl : p.block < w.heap.size := World.block_lt_of_cell? w _ hp
  have hpA : (w.alloc (.cells #[.int .i64 0] 35)).cell? p = some (.int .i64 n) := by
    rw [World.cell?_alloc_lt _ _ p hpl]; exact hp
  have hgA : EtIs (w.alloc (.cells #[.int .i64 0] 35)) := by
    unfold EtIs; rw [World.cell?_alloc_lt _ _ ⟨1, 0, none⟩ hlt]; exact hg
  go_enter Tryd.func68, Tryd.ntmps68
  go_wp2_with (go_at_call 88; refine (as_at n p _ (.int .i64 0) _ hgA hpA (by simp) (by simp)).mono ?_; rintro e w' ⟨rfl, rfl⟩)
  go_ret
  refine ⟨?_, ?_⟩
  · simp
  · repeat (refine Below.alloc ?_ (by first | exact Nat.le_refl _ | (simp; done) | (simp; omega)) _)
    exact Below.refl _ _

/-! ### plain.Place -/
set_option maxRecDepth 100000 in
theorem place_nil (w : World) : Calls Tryd.prog 28 #[.nilIface] w fun e w' => e = .returned (.tuple #[.int .i64 0, .int .i64 (-1)]) ∧ w' = w := by
  go_enter Tryd.func28, Tryd.ntmps28
  go_wp2_with (go_at_call 68; refine (tell_nil _).mono ?_; rintro e w' ⟨rfl, rfl⟩)
  refine wp_loop_rounds 1 ?_
  rw [rounds_succ]
  go_wp2
  go_ret2
  exact ⟨rfl, rfl⟩

set_option maxRecDepth 100000 in
set_option maxHeartbeats 1000000 in
theorem place_errno (n : Int) (w : World) (hg : EtIs w) :
    Calls Tryd.prog 28 #[.iface 35 (.int .i64 n)] w fun e w' => e = .returned (.tuple #[.int .i64 n, .int .i64 (-1)]) ∧ Below w.heap.size w w' := by
  have tA1 : ∀ (v : Value) (w : World), (Instr.typeAssert (.iface 35 v) 24 117 true).run Tryd.prog w = .ok (.tuple #[.pointer none, .bool false]) w := fun v w => by kernel_rfl
  have tA2 : ∀ (v : Value) (xT : TypeId) (w : World), (Instr.typeAssert (.iface 35 v) xT 179 true).run Tryd.prog w = .ok (.tuple #[.nilIface, .bool false]) w := fun v xT w => run_typeAssert_lacksB Tryd.underlying179 (by kernel_rfl) (by kernel_rfl) v xT w
  go_enter Tryd.func28, Tryd.ntmps28
  go_wp2_with (go_at_call 68; refine (tell_errno n _ hg).mono ?_; rintro e w1 ⟨rfl, hb⟩)
  refine wp_loop_rounds 1 ?_
  rw [rounds_succ]
  go_wp2
  go_ret2
  exact ⟨rfl, hb⟩

set_option maxRecDepth 100000 in
set_option maxHeartbeats 1000000 in
theorem place_at (n k : Int) (pb po : Nat) (w : World) (hp : w.cell? ⟨pb, po, none⟩ = some (.int .i64 n)) (hq : w.cell? ⟨pb, po + 1, none⟩ = some (.int .i64 k)) (hg : EtIs w) :
    Calls Tryd.prog 28 #[.iface 117 (.pointer (some ⟨pb, po, none⟩))] w fun e w' => e = .returned (.tuple #[.int .i64 n, .int .i64 k]) ∧ Below w.heap.size w w' := by
  have tA1 : ∀ (v : Value) (w : World), (Instr.typeAssert (.iface 117 v) 24 117 true).run Tryd.prog w = .ok (.tuple #[v, .bool true]) w := fun v w => by kernel_rfl
  have hl : pb < w.heap.size := World.block_lt_of_cell? w _ hp
  go_enter Tryd.func28, Tryd.ntmps28
  go_wp2_with (go_at_call 68; refine (tell_at n _ _ hp hg).mono ?_; rintro e w1 ⟨rfl, hb⟩)
  have hq1 : w1.cell? ⟨pb, po + 1, none⟩ = some (.int .i64 k) := by rw [(bcell hb).1 _ _ hl]; exact hq
  refine wp_loop_rounds 1 ?_
  rw [rounds_succ]
  go_wp2
  go_quiet (fail)
  go_wp2
  go_ret2
  exact ⟨rfl, below_drewN hb _⟩

theorem EtIs.alloc {w : World} (h : EtIs w) (o : Obj) : EtIs (w.alloc o) := by
  unfold EtIs; rw [World.cell?_alloc_lt _ _ ⟨1, 0, none⟩ (World.block_lt_of_cell? w _ h)]; exact h
theorem EtIs.below {w w' : World} {B : Nat} (h : EtIs w) (hb : Below B w w') (hB : 1 < B) : EtIs w' := by
  unfold EtIs; rw [hb.cell hB]; exact h

/-! ### the laws' at and bare -/

set_option maxRecDepth 100000 in
set_option maxHeartbeats 1000000 in
theorem at_errno (n : Int) (fe fp : Int) (w : World) (hg : EtIs w):
    Calls Tryd.prog 19 #[.iface 35 (.int .i64 n), .agg #[.int .i64 fe, .int .i64 fp]] w fun e w' => e = .returned (.bool ((n == fe) && ((-1 : Int) == fp))) ∧ Below w.heap.size w w' := by
  rcases h : (n == fe) with _ | _
  all_goals
    go_enter Tryd.func19, Tryd.ntmps19
    go_wp2_with (go_at_call 28; refine (place_errno n _ (EtIs.alloc hg _)).mono ?_; rintro e w1 ⟨rfl, hb⟩; have hb' : Below w.heap.size w w1 := ((Below.refl _ _).alloc (Nat.le_refl _) _).trans (hb.mono (by simp)); have g0 : w1.cell? ⟨w.heap.size, 0, none⟩ = some (.int .i64 fe) := (by rw [hb.cell (by simp)]; simp); have g1 : w1.cell? ⟨w.heap.size, 1, none⟩ = some (.int .i64 fp) := (by rw [hb.cell (by simp)]; simp))
    go_wp2
    go_ret
    exact ⟨by simp, hb'⟩

set_option maxRecDepth 100000 in
set_option maxHeartbeats 1000000 in
theorem at_at (n k : Int) (pb po : Nat) (fe fp : Int) (w : World) (hp : w.cell? ⟨pb, po, none⟩ = some (.int .i64 n)) (hq : w.cell? ⟨pb, po + 1, none⟩ = some (.int .i64 k)) (hg : EtIs w):
    Calls Tryd.prog 19 #[.iface 117 (.pointer (some ⟨pb, po, none⟩)), .agg #[.int .i64 fe, .int .i64 fp]] w fun e w' => e = .returned (.bool ((n == fe) && (k == fp))) ∧ Below w.heap.size w w' := by
  have hl : pb < w.heap.size := World.block_lt_of_cell? w _ hp
  have hpA : (w.alloc (.cells #[.int .i64 fe, .int .i64 fp] 48)).cell? ⟨pb, po, none⟩ = some (.int .i64 n) := by rw [World.cell?_alloc_lt _ _ ⟨pb, po, none⟩ hl]; exact hp
  have hqA : (w.alloc (.cells #[.int .i64 fe, .int .i64 fp] 48)).cell? ⟨pb, po + 1, none⟩ = some (.int .i64 k) := by rw [World.cell?_alloc_lt _ _ ⟨pb, po + 1, none⟩ hl]; exact hq
  rcases h : (n == fe) with _ | _
  all_goals
    go_enter Tryd.func19, Tryd.ntmps19
    go_wp2_with (go_at_call 28; refine (place_at n k pb po _ hpA hqA (EtIs.alloc hg _)).mono ?_; rintro e w1 ⟨rfl, hb⟩; have hb' : Below w.heap.size w w1 := ((Below.refl _ _).alloc (Nat.le_refl _) _).trans (hb.mono (by simp)); have g0 : w1.cell? ⟨w.heap.size, 0, none⟩ = some (.int .i64 fe) := (by rw [hb.cell (by simp)]; simp); have g1 : w1.cell? ⟨w.heap.size, 1, none⟩ = some (.int .i64 fp) := (by rw [hb.cell (by simp)]; simp))
    go_wp2
    go_ret
    exact ⟨by simp, hb'⟩

set_option maxRecDepth 100000 in
set_option maxHeartbeats 1000000 in
theorem at_nil  (fe fp : Int) (w : World) :
    Calls Tryd.prog 19 #[.nilIface, .agg #[.int .i64 fe, .int .i64 fp]] w fun e w' => e = .returned (.bool (((0 : Int) == fe) && ((-1 : Int) == fp))) ∧ Below w.heap.size w w' := by
  rcases h : ((0 : Int) == fe) with _ | _
  all_goals
    go_enter Tryd.func19, Tryd.ntmps19
    go_wp2_with (go_at_call 28; refine (place_nil _).mono ?_; rintro e w1 ⟨rfl, rfl⟩)
    go_wp2
    go_ret
    exact ⟨by simp, (Below.refl _ _).alloc (Nat.le_refl _) _⟩

theorem bareF (n : Int) (w : World) : Calls Tryd.prog 24 #[.int .i64 n] w fun e w' => e = .returned (.agg #[.int .i64 n, .int .i64 (-1)]) ∧ Below w.heap.size w w' := by
  go_enter Tryd.func24, Tryd.ntmps24
  go_wp2
  exact bodyPost_ret (v := .agg #[.int .i64 n, .int .i64 (-1)]) (by simp [results, Tryd.results24, go_sem]) rfl ⟨rfl, (Below.refl _ _).alloc (Nat.le_refl _) _⟩

set_option maxHeartbeats 1000000 in
theorem bare_nil  (fe : Int) (w : World) :
    Calls Tryd.prog 14 #[.nilIface, .int .i64 fe] w fun e w' => e = .returned (.bool ((0 : Int) == fe)) ∧ Below w.heap.size w w' := by
  go_enter Tryd.func14, Tryd.ntmps14
  go_wp2_with (first | (go_at_call 24; refine (bareF _ _).mono ?_; rintro e w1 ⟨rfl, hb⟩) | (go_at_call 19; refine (at_nil _ _ _).mono ?_; rintro e w2 ⟨rfl, hb2⟩))
  go_ret
  exact ⟨rfl, hb.trans (hb2.mono hb.size)⟩

set_option maxHeartbeats 1000000 in
theorem bare_errno (n : Int) (fe : Int) (w : World) (hg : EtIs w):
    Calls Tryd.prog 14 #[.iface 35 (.int .i64 n), .int .i64 fe] w fun e w' => e = .returned (.bool (n == fe)) ∧ Below w.heap.size w w' := by
  go_enter Tryd.func14, Tryd.ntmps14
  go_wp2_with (first | (go_at_call 24; refine (bareF _ _).mono ?_; rintro e w1 ⟨rfl, hb⟩) | (go_at_call 19; refine (at_errno n _ _ _ (hg.below hb (World.block_lt_of_cell? w _ hg))).mono ?_; rintro e w2 ⟨rfl, hb2⟩))
  go_ret
  exact ⟨rfl, hb.trans (hb2.mono hb.size)⟩

set_option maxHeartbeats 1000000 in
theorem bare_at (n k : Int) (pb po : Nat) (fe : Int) (w : World) (hp : w.cell? ⟨pb, po, none⟩ = some (.int .i64 n)) (hq : w.cell? ⟨pb, po + 1, none⟩ = some (.int .i64 k)) (hg : EtIs w):
    Calls Tryd.prog 14 #[.iface 117 (.pointer (some ⟨pb, po, none⟩)), .int .i64 fe] w fun e w' => e = .returned (.bool ((n == fe) && (k == -1))) ∧ Below w.heap.size w w' := by
  have hl : pb < w.heap.size := World.block_lt_of_cell? w _ hp
  have hg0 : 1 < w.heap.size := World.block_lt_of_cell? w _ hg
  go_enter Tryd.func14, Tryd.ntmps14
  go_wp2_with (first | (go_at_call 24; refine (bareF _ _).mono ?_; rintro e w1 ⟨rfl, hb⟩; have hp1 : w1.cell? ⟨pb, po, none⟩ = some (.int .i64 n) := (by rw [hb.cell hl]; exact hp); have hq1 : w1.cell? ⟨pb, po + 1, none⟩ = some (.int .i64 k) := (by rw [hb.cell hl]; exact hq)) | (go_at_call 19; refine (at_at n k pb po _ _ _ hp1 hq1 (hg.below hb hg0)).mono ?_; rintro e w2 ⟨rfl, hb2⟩))
  go_ret
  exact ⟨rfl, hb.trans (hb2.mono hb.size)⟩
end Go.Proofs.YthbkklnahhdgcaaDoor.ErrC
