/-
  errors.As at the target *api.Errno: the walks, and api.Tell.
-/
import Derived.Test.YthbkklnahhdgcaaDoorErrA
import Derived.Test.YthbkklnahhdgcaaDoorLib
namespace Go.Proofs.YthbkklnahhdgcaaDoor.ErrB
open Go Go.RowKit Go.Extern.Stop Go.Stop Go.Extern Go.Proofs.YthbkklnahhdgcaaDoor.ErrA Go.Proofs.YthbkklnahhdgcaaDoor.Lib

set_option maxHeartbeats 4000000 in
theorem as_errno (n : Int) (t : Addr) (old : Value) (w : World) (hg : w.cell? ⟨1, 0, none⟩ = some (.iface 256 (.agg #[.pointer (some ⟨5, 24, none⟩)])))
    (ht0 : w.cell? t = some old) (hf0 : w.frozen? t = false) :
    Calls Tryd.prog 88 #[.iface 35 (.int .i64 n), .iface 204 (.pointer (some t))] w fun ev w' => ev = .returned (.bool true) ∧
      w' = ((((w.alloc (.cells #[.pointer (some t)] 204)).alloc (.cells #[.pointer (some ⟨5, 204, none⟩), .pointer (some ⟨w.heap.size, 0, none⟩), .int .u64 150] 226)).alloc (.cells #[.pointer (some ⟨5, 204, none⟩), .pointer (some ⟨w.heap.size, 0, none⟩), .int .u64 150] 226)).alloc (.cells #[.int .i64 n] 35)).setCell t (.int .i64 n) := by
  have h6 := @run_callFunc_extern Tryd.prog 103 _ (fun args => ReflectliteValue.unpack (args.getD 0 (.tuple #[]))) Tryd.func103 (by kernel_rfl) (by kernel_rfl) (by kernel_rfl) (by kernel_rfl)
  have h7 := @run_callFunc_extern Tryd.prog 104 _ (ReflectliteValue.methodAny (ReflectliteValue.valueError "reflectlite.Value.Type" 0) (fun t _ _ _ => ReflectliteType.toType t)) Tryd.func104 (by kernel_rfl) (by kernel_rfl) (by kernel_rfl) (by kernel_rfl)
  have h8 := @run_callFunc_extern Tryd.prog 105 _ (ReflectliteValue.method (ReflectliteValue.valueError "reflectlite.Value.IsNil" 0) ReflectliteValue.isNil) Tryd.func105 (by kernel_rfl) (by kernel_rfl) (by kernel_rfl) (by kernel_rfl)
  have h27 := @run_callFunc_extern Tryd.prog 193 _ (ReflectliteType.abiMethod fun t => do pure (.int .u8 (← Rtype.kind t))) Tryd.func193 (by kernel_rfl) (by kernel_rfl) (by kernel_rfl) (by kernel_rfl)
  have h37 := @run_callFunc_extern Tryd.prog 207 _ (ReflectliteType.method ReflectliteType.elem) Tryd.func207 (by kernel_rfl) (by kernel_rfl) (by kernel_rfl) (by kernel_rfl)
  have h38 := @run_callFunc_extern Tryd.prog 208 _ (ReflectliteType.relation "Implements" ReflectliteType.implements_) Tryd.func208 (by kernel_rfl) (by kernel_rfl) (by kernel_rfl) (by kernel_rfl)
  have h10 := @run_callFunc_extern Tryd.prog 125 _ ReflectliteType.typeOf Tryd.func125 (by kernel_rfl) (by kernel_rfl) (by kernel_rfl) (by kernel_rfl)
  have h35 := @run_callFunc_extern Tryd.prog 205 _ (ReflectliteType.relation "AssignableTo" ReflectliteType.assignableTo) Tryd.func205 (by kernel_rfl) (by kernel_rfl) (by kernel_rfl) (by kernel_rfl)
  have h11 := @run_callFunc_extern Tryd.prog 126 _ (ReflectliteValue.method (ReflectliteValue.valueError "reflectlite.Value.Elem" 0) ReflectliteValue.elem) Tryd.func126 (by kernel_rfl) (by kernel_rfl) (by kernel_rfl) (by kernel_rfl)
  have h12 := @run_callFunc_extern Tryd.prog 127 _ ReflectliteValue.set Tryd.func127 (by kernel_rfl) (by kernel_rfl) (by kernel_rfl) (by kernel_rfl)
  have tO := typeOfE
  have mA := methodAssignableTo
  have a25 := assignableE
  have v25 := valueOfE
  have f6 := valueOfP
  have f7 := typeP
  have mK := methodKind
  have mE := methodElem
  have mI := methodImplements
  have k27 := kindP
  have k25 := kindE
  have e27 := elemTP
  have i25 := implementsE
  have n8 := isNilP ⟨w.heap.size, 0, none⟩ t ((w.alloc (.cells #[.pointer (some t)] 204)).alloc (.cells #[.pointer (some ⟨5, 204, none⟩), .pointer (some ⟨w.heap.size, 0, none⟩), .int .u64 150] 226)) (by simp)
  have hlt : 1 < w.heap.size := World.block_lt_of_cell? w _ hg
  have hg2 : ((w.alloc (.cells #[.pointer (some t)] 204)).alloc (.cells #[.pointer (some ⟨5, 204, none⟩), .pointer (some ⟨w.heap.size, 0, none⟩), .int .u64 150] 226)).cell? ⟨1, 0, none⟩ = some (.iface 256 (.agg #[.pointer (some ⟨5, 24, none⟩)])) := by
    rw [World.cell?_alloc_lt _ _ ⟨1, 0, none⟩ (by simp; omega), World.cell?_alloc_lt _ _ ⟨1, 0, none⟩ hlt]; exact hg
  have htl : t.block < w.heap.size := World.block_lt_of_cell? w _ ht0
  have el := elemVP ⟨w.heap.size, 0, none⟩ t (((w.alloc (.cells #[.pointer (some t)] 204)).alloc (.cells #[.pointer (some ⟨5, 204, none⟩), .pointer (some ⟨w.heap.size, 0, none⟩), .int .u64 150] 226)).alloc (.cells #[.pointer (some ⟨5, 204, none⟩), .pointer (some ⟨w.heap.size, 0, none⟩), .int .u64 150] 226)) (by rw [World.cell?_alloc_lt _ _ ⟨w.heap.size, 0, none⟩ (by simp; omega)]; simp)
  have st := setE t ⟨w.heap.size + 1 + 1 + 1, 0, none⟩ n old ((((w.alloc (.cells #[.pointer (some t)] 204)).alloc (.cells #[.pointer (some ⟨5, 204, none⟩), .pointer (some ⟨w.heap.size, 0, none⟩), .int .u64 150] 226)).alloc (.cells #[.pointer (some ⟨5, 204, none⟩), .pointer (some ⟨w.heap.size, 0, none⟩), .int .u64 150] 226)).alloc (.cells #[.int .i64 n] 35))
    (by rw [World.cell?_alloc_at _ _ _ _ (by simp)]; rfl)
    (by rw [World.cell?_alloc_lt _ _ t (by simp; omega), World.cell?_alloc_lt _ _ t (by simp; omega), World.cell?_alloc_lt _ _ t (by simp; omega), World.cell?_alloc_lt _ _ t htl]; exact ht0)
    (by rw [World.frozen?_alloc_old _ _ t (by simp; omega), World.frozen?_alloc_old _ _ t (by simp; omega), World.frozen?_alloc_old _ _ t (by simp; omega), World.frozen?_alloc_old _ _ t (Nat.ne_of_lt htl)]; exact hf0)
  go_enter Tryd.func88, Tryd.ntmps88
  go_wp2
  refine wp_loop_rounds 1 ?_
  rw [rounds_succ]
  go_wp2
  go_ret
  exact ⟨rfl, rfl⟩
set_option maxRecDepth 100000 in
set_option maxHeartbeats 4000000 in
theorem as_at (n : Int) (p t : Addr) (old : Value) (w : World) (hg : w.cell? ⟨1, 0, none⟩ = some (.iface 256 (.agg #[.pointer (some ⟨5, 24, none⟩)])))
    (hp : w.cell? p = some (.int .i64 n)) (ht0 : w.cell? t = some old) (hf0 : w.frozen? t = false) :
    Calls Tryd.prog 88 #[.iface 117 (.pointer (some p)), .iface 204 (.pointer (some t))] w fun ev w' => ev = .returned (.bool true) ∧
      w' = ((((w.alloc (.cells #[.pointer (some t)] 204)).alloc (.cells #[.pointer (some ⟨5, 204, none⟩), .pointer (some ⟨w.heap.size, 0, none⟩), .int .u64 150] 226)).alloc (.cells #[.pointer (some ⟨5, 204, none⟩), .pointer (some ⟨w.heap.size, 0, none⟩), .int .u64 150] 226)).alloc (.cells #[.int .i64 n] 35)).setCell t (.int .i64 n) := by
  have h6 := @run_callFunc_extern Tryd.prog 103 _ (fun args => ReflectliteValue.unpack (args.getD 0 (.tuple #[]))) Tryd.func103 (by kernel_rfl) (by kernel_rfl) (by kernel_rfl) (by kernel_rfl)
  have h7 := @run_callFunc_extern Tryd.prog 104 _ (ReflectliteValue.methodAny (ReflectliteValue.valueError "reflectlite.Value.Type" 0) (fun t _ _ _ => ReflectliteType.toType t)) Tryd.func104 (by kernel_rfl) (by kernel_rfl) (by kernel_rfl) (by kernel_rfl)
  have h8 := @run_callFunc_extern Tryd.prog 105 _ (ReflectliteValue.method (ReflectliteValue.valueError "reflectlite.Value.IsNil" 0) ReflectliteValue.isNil) Tryd.func105 (by kernel_rfl) (by kernel_rfl) (by kernel_rfl) (by kernel_rfl)
  have h27 := @run_callFunc_extern Tryd.prog 193 _ (ReflectliteType.abiMethod fun t => do pure (.int .u8 (← Rtype.kind t))) Tryd.func193 (by kernel_rfl) (by kernel_rfl) (by kernel_rfl) (by kernel_rfl)
  have h37 := @run_callFunc_extern Tryd.prog 207 _ (ReflectliteType.method ReflectliteType.elem) Tryd.func207 (by kernel_rfl) (by kernel_rfl) (by kernel_rfl) (by kernel_rfl)
  have h38 := @run_callFunc_extern Tryd.prog 208 _ (ReflectliteType.relation "Implements" ReflectliteType.implements_) Tryd.func208 (by kernel_rfl) (by kernel_rfl) (by kernel_rfl) (by kernel_rfl)
  have h10 := @run_callFunc_extern Tryd.prog 125 _ ReflectliteType.typeOf Tryd.func125 (by kernel_rfl) (by kernel_rfl) (by kernel_rfl) (by kernel_rfl)
  have h35 := @run_callFunc_extern Tryd.prog 205 _ (ReflectliteType.relation "AssignableTo" ReflectliteType.assignableTo) Tryd.func205 (by kernel_rfl) (by kernel_rfl) (by kernel_rfl) (by kernel_rfl)
  have h11 := @run_callFunc_extern Tryd.prog 126 _ (ReflectliteValue.method (ReflectliteValue.valueError "reflectlite.Value.Elem" 0) ReflectliteValue.elem) Tryd.func126 (by kernel_rfl) (by kernel_rfl) (by kernel_rfl) (by kernel_rfl)
  have h12 := @run_callFunc_extern Tryd.prog 127 _ ReflectliteValue.set Tryd.func127 (by kernel_rfl) (by kernel_rfl) (by kernel_rfl) (by kernel_rfl)
  have tO := typeOfE
  have tO' := typeOfAt
  have aAt := assignableAt
  have tA1 : ∀ (v : Value) (xT : TypeId) (w : World), (Instr.typeAssert (.iface 117 v) xT 261 true).run Tryd.prog w = .ok (.tuple #[.nilIface, .bool false]) w := fun v xT w => run_typeAssert_lacksB Tryd.underlying261 (by kernel_rfl) (by kernel_rfl) v xT w
  have tA2 : ∀ (v : Value) (xT : TypeId) (w : World), (Instr.typeAssert (.iface 117 v) xT 179 true).run Tryd.prog w = .ok (.tuple #[.iface 117 v, .bool true]) w := fun v xT w => run_typeAssert_hasB Tryd.underlying179 (by kernel_rfl) v xT w
  have nA : ∀ (a : Addr) (w : World), (nilAhead 436 117 (.pointer (some a)) "Unwrap").run Tryd.prog w = .ok (some false) w := fun a w => by kernel_rfl
  have mU : ∀ (a : Addr) (w : World), (Go.method 436 117 (.pointer (some a)) "Unwrap").run Tryd.prog w = .ok (198, .pointer (some a)) w := fun a w => by kernel_rfl
  have mA := methodAssignableTo
  have a25 := assignableE
  have v25 := valueOfE
  have f6 := valueOfP
  have f7 := typeP
  have mK := methodKind
  have mE := methodElem
  have mI := methodImplements
  have k27 := kindP
  have k25 := kindE
  have e27 := elemTP
  have i25 := implementsE
  have n8 := isNilP ⟨w.heap.size, 0, none⟩ t ((w.alloc (.cells #[.pointer (some t)] 204)).alloc (.cells #[.pointer (some ⟨5, 204, none⟩), .pointer (some ⟨w.heap.size, 0, none⟩), .int .u64 150] 226)) (by simp)
  have hlt : 1 < w.heap.size := World.block_lt_of_cell? w _ hg
  have hg2 : ((w.alloc (.cells #[.pointer (some t)] 204)).alloc (.cells #[.pointer (some ⟨5, 204, none⟩), .pointer (some ⟨w.heap.size, 0, none⟩), .int .u64 150] 226)).cell? ⟨1, 0, none⟩ = some (.iface 256 (.agg #[.pointer (some ⟨5, 24, none⟩)])) := by
    rw [World.cell?_alloc_lt _ _ ⟨1, 0, none⟩ (by simp; omega), World.cell?_alloc_lt _ _ ⟨1, 0, none⟩ hlt]; exact hg
  have hpl : p.block < w.heap.size := World.block_lt_of_cell? w _ hp
  have hp3 : (((w.alloc (.cells #[.pointer (some t)] 204)).alloc (.cells #[.pointer (some ⟨5, 204, none⟩), .pointer (some ⟨w.heap.size, 0, none⟩), .int .u64 150] 226)).alloc (.cells #[.pointer (some ⟨5, 204, none⟩), .pointer (some ⟨w.heap.size, 0, none⟩), .int .u64 150] 226)).cell? p = some (.int .i64 n) := by
    rw [World.cell?_alloc_lt _ _ p (by simp; omega), World.cell?_alloc_lt _ _ p (by simp; omega), World.cell?_alloc_lt _ _ p hpl]; exact hp
  have htl : t.block < w.heap.size := World.block_lt_of_cell? w _ ht0
  have el := elemVP ⟨w.heap.size, 0, none⟩ t (((w.alloc (.cells #[.pointer (some t)] 204)).alloc (.cells #[.pointer (some ⟨5, 204, none⟩), .pointer (some ⟨w.heap.size, 0, none⟩), .int .u64 150] 226)).alloc (.cells #[.pointer (some ⟨5, 204, none⟩), .pointer (some ⟨w.heap.size, 0, none⟩), .int .u64 150] 226)) (by rw [World.cell?_alloc_lt _ _ ⟨w.heap.size, 0, none⟩ (by simp; omega)]; simp)
  have st := setE t ⟨w.heap.size + 1 + 1 + 1, 0, none⟩ n old ((((w.alloc (.cells #[.pointer (some t)] 204)).alloc (.cells #[.pointer (some ⟨5, 204, none⟩), .pointer (some ⟨w.heap.size, 0, none⟩), .int .u64 150] 226)).alloc (.cells #[.pointer (some ⟨5, 204, none⟩), .pointer (some ⟨w.heap.size, 0, none⟩), .int .u64 150] 226)).alloc (.cells #[.int .i64 n] 35))
    (by rw [World.cell?_alloc_at _ _ _ _ (by simp)]; rfl)
    (by rw [World.cell?_alloc_lt _ _ t (by simp; omega), World.cell?_alloc_lt _ _ t (by simp; omega), World.cell?_alloc_lt _ _ t (by simp; omega), World.cell?_alloc_lt _ _ t htl]; exact ht0)
    (by rw [World.frozen?_alloc_old _ _ t (by simp; omega), World.frozen?_alloc_old _ _ t (by simp; omega), World.frozen?_alloc_old _ _ t (by simp; omega), World.frozen?_alloc_old _ _ t (Nat.ne_of_lt htl)]; exact hf0)
  go_enter Tryd.func88, Tryd.ntmps88
  go_wp2
  refine wp_loop_rounds 2 ?_
  rw [rounds_succ]
  go_wp2
  rw [rounds_succ]
  go_wp2
  go_ret
  exact ⟨rfl, rfl⟩
end Go.Proofs.YthbkklnahhdgcaaDoor.ErrB
