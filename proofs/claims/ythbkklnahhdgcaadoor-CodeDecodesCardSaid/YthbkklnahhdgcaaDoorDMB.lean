/-
  errors.As at the target *api.Errno, after the guide's worked example of errors.As (Derived/Test/ToyasAs.lean): a nil error; an api.Errno; an *api.At, which unwraps to an api.Errno.
-/
import Derived.Test.YthbkklnahhdgcaaDoorProg
import Derived.WalkKit
import Derived.LaidEql
import Derived.Stop.Asserts
import Derived.RowKitTokens
import Derived.Test.YthbkklnahhdgcaaDoorDMA
import Derived.BigQuiet
namespace Go.Proofs.YthbkklnahhdgcaaDoor.ErrA
open Go Go.RowKit Go.Extern.Stop Go.Stop Go.Extern

/-- errors.As(nil, target). -/
theorem as_nil (t : Value) (w : World) :
    Calls Tryd.prog 88 #[.nilIface, t] w fun e w' => e = .returned (.bool false) ∧ w' = w := by
  go_enter Tryd.func88, Tryd.ntmps88
  go_wp2
  go_ret
  exact ⟨rfl, rfl⟩

theorem valueOfP (t : Addr) (w : World) : (ReflectliteValue.unpack (.iface 204 (.pointer (some t)))).run Tryd.prog w
    = .ok (.agg #[.pointer (some ⟨5, 204, none⟩), .pointer (some ⟨w.heap.size, 0, none⟩), .int .u64 150]) (w.alloc (.cells #[.pointer (some t)] 204)) := by kernel_rfl
theorem valueOfE (n : Int) (w : World) : (ReflectliteValue.unpack (.iface 35 (.int .i64 n))).run Tryd.prog w
    = .ok (.agg #[.pointer (some ⟨5, 35, none⟩), .pointer (some ⟨w.heap.size, 0, none⟩), .int .u64 130]) (w.alloc (.cells #[.int .i64 n] 35)) := by kernel_rfl

theorem typeP (a : Addr) (w : World) : (ReflectliteValue.methodAny (ReflectliteValue.valueError "reflectlite.Value.Type" 0) (fun t _ _ _ => ReflectliteType.toType t) #[.agg #[.pointer (some ⟨5, 204, none⟩), .pointer (some a), .int .u64 150]]).run Tryd.prog w
    = .ok (.iface 256 (.agg #[.pointer (some ⟨5, 204, none⟩)])) w := by kernel_rfl
theorem methodKind (h : Value) (w : World) : (Go.method 436 256 (.agg #[h]) "Kind").run Tryd.prog w = .ok (193, h) w := by kernel_rfl
theorem kindP (w : World) : ((ReflectliteType.abiMethod fun t => Functor.map (fun a : Nat => Value.int IntKind.u8 (a : Int)) (Rtype.kind t)) #[.pointer (some ⟨5, 204, none⟩)]).run Tryd.prog w = .ok (.int .u8 22) w := by kernel_rfl
theorem kindE (w : World) : ((ReflectliteType.abiMethod fun t => Functor.map (fun a : Nat => Value.int IntKind.u8 (a : Int)) (Rtype.kind t)) #[.pointer (some ⟨5, 35, none⟩)]).run Tryd.prog w = .ok (.int .u8 2) w := by kernel_rfl
theorem rlm (z : Sem Value) (f : TypeId → Addr → Nat → Nat → Sem Value) (v : Value) :
    ReflectliteValue.method z f #[v] = (do match ← ReflectliteValue.parts v with | none => z | some (t, a, fl) => f t a fl (fl % 32)) := rfl
theorem partsP (a : Addr) (w : World) : (ReflectliteValue.parts (.agg #[.pointer (some ⟨5, 204, none⟩), .pointer (some a), .int .u64 150])).run Tryd.prog w = .ok (some (204, a, 150)) w := by kernel_rfl
theorem isNilP (a p : Addr) (W : World) (ha : W.cell? a = some (.pointer (some p))) :
    (ReflectliteValue.method (ReflectliteValue.valueError "reflectlite.Value.IsNil" 0) ReflectliteValue.isNil #[.agg #[.pointer (some ⟨5, 204, none⟩), .pointer (some a), .int .u64 150]]).run Tryd.prog W = .ok (.bool false) W := by
  rw [rlm]
  simp only [Sem.run_bind, partsP, Result.andThen]
  simp [ReflectliteValue.isNil, loadVar, isAgg, underlying, Tryd.underlying204, ha, Result.andThen]
theorem methodElem (h : Value) (w : World) : (Go.method 436 256 (.agg #[h]) "Elem").run Tryd.prog w = .ok (207, .agg #[h]) w := by kernel_rfl
theorem methodImplements (h : Value) (w : World) : (Go.method 436 256 (.agg #[h]) "Implements").run Tryd.prog w = .ok (208, .agg #[h]) w := by kernel_rfl
theorem methodAssignableTo (h : Value) (w : World) : (Go.method 436 256 (.agg #[h]) "AssignableTo").run Tryd.prog w = .ok (205, .agg #[h]) w := by kernel_rfl
theorem elemTP (w : World) : (ReflectliteType.method ReflectliteType.elem #[.agg #[.pointer (some ⟨5, 204, none⟩)]]).run Tryd.prog w = .ok (.iface 256 (.agg #[.pointer (some ⟨5, 35, none⟩)])) w := by kernel_rfl
theorem implementsE (w : World) : (ReflectliteType.relation "Implements" ReflectliteType.implements_ #[.agg #[.pointer (some ⟨5, 35, none⟩)], .iface 256 (.agg #[.pointer (some ⟨5, 24, none⟩)])]).run Tryd.prog w = .ok (.bool true) w := by kernel_rfl
theorem typeOfE (v : Value) (w : World) : (ReflectliteType.typeOf #[.iface 35 v]).run Tryd.prog w = .ok (.iface 256 (.agg #[.pointer (some ⟨5, 35, none⟩)])) w := by kernel_rfl
theorem typeOfAt (v : Value) (w : World) : (ReflectliteType.typeOf #[.iface 117 v]).run Tryd.prog w = .ok (.iface 256 (.agg #[.pointer (some ⟨5, 117, none⟩)])) w := by kernel_rfl
theorem assignableE (w : World) : (ReflectliteType.relation "AssignableTo" ReflectliteType.assignableTo #[.agg #[.pointer (some ⟨5, 35, none⟩)], .iface 256 (.agg #[.pointer (some ⟨5, 35, none⟩)])]).run Tryd.prog w = .ok (.bool true) w := by kernel_rfl
theorem assignableAt (w : World) : (ReflectliteType.relation "AssignableTo" ReflectliteType.assignableTo #[.agg #[.pointer (some ⟨5, 117, none⟩)], .iface 256 (.agg #[.pointer (some ⟨5, 35, none⟩)])]).run Tryd.prog w = .ok (.bool false) w := by kernel_rfl
theorem elemOfP (w : World) : (Rtype.elem? 204).run Tryd.prog w = .ok (some 35) w := by kernel_rfl
theorem mkE (p : Addr) (w : World) : (ReflectliteValue.mk 35 p ReflectliteValue.flagAddr).run Tryd.prog w = .ok (.agg #[.pointer (some ⟨5, 35, none⟩), .pointer (some p), .int .u64 386]) w := by kernel_rfl
theorem elemVP (a p : Addr) (W : World) (ha : W.cell? a = some (.pointer (some p))) :
    (ReflectliteValue.method (ReflectliteValue.valueError "reflectlite.Value.Elem" 0) ReflectliteValue.elem #[.agg #[.pointer (some ⟨5, 204, none⟩), .pointer (some a), .int .u64 150]]).run Tryd.prog W
      = .ok (.agg #[.pointer (some ⟨5, 35, none⟩), .pointer (some p), .int .u64 386]) W := by
  rw [rlm]
  simp only [Sem.run_bind, partsP, Result.andThen]
  simp [ReflectliteValue.elem, loadVar, isAgg, underlying, Tryd.underlying204, ha, Result.andThen, elemOfP, mkE]
theorem rls (v x : Value) : ReflectliteValue.set #[v, x] = (do
    let (some (dst, a, fl), some (src, b, _)) := (← ReflectliteValue.parts v, ← ReflectliteValue.parts x)
      | unsupported (.noEntry "extern/(internal/reflectlite.Value).Set.zeroValue")
    if fl / ReflectliteValue.flagAddr % 2 == 0 then unsupported (.noEntry "extern/(internal/reflectlite.Value).Set.unaddressable")
    let val ← loadVar src b
    if ← Rtype.directlyAssignable dst src then storeVar dst a val
    else if ← Rtype.implements dst src then
      if (← Rtype.kind src) == 20 then
        match val with
        | .nilIface => unsupported (.noEntry "extern/reflectlite: a nil value of one interface type handed on as a value of another")
        | _ => storeVar dst a val
      else storeVar dst a (.iface src val)
    else panicString ("reflectlite.Set: value of type " ++ (← Rtype.spelt src) ++ " is not assignable to type " ++ (← Rtype.spelt dst))
    pure (.tuple #[])) := rfl
theorem partsEa (a : Addr) (w : World) : (ReflectliteValue.parts (.agg #[.pointer (some ⟨5, 35, none⟩), .pointer (some a), .int .u64 386])).run Tryd.prog w = .ok (some (35, a, 386)) w := by kernel_rfl
theorem partsE (a : Addr) (w : World) : (ReflectliteValue.parts (.agg #[.pointer (some ⟨5, 35, none⟩), .pointer (some a), .int .u64 130])).run Tryd.prog w = .ok (some (35, a, 130)) w := by kernel_rfl
theorem directE (w : World) : (Rtype.directlyAssignable 35 35).run Tryd.prog w = .ok true w := by kernel_rfl
theorem setE (ta b : Addr) (n : Int) (old : Value) (W : World) (hb : W.cell? b = some (.int .i64 n)) (ht : W.cell? ta = some old) (hf : W.frozen? ta = false) :
    (ReflectliteValue.set #[.agg #[.pointer (some ⟨5, 35, none⟩), .pointer (some ta), .int .u64 386], .agg #[.pointer (some ⟨5, 35, none⟩), .pointer (some b), .int .u64 130]]).run Tryd.prog W
      = .ok (.tuple #[]) (W.setCell ta (.int .i64 n)) := by
  rw [rls]
  simp only [Sem.run_bind, partsEa, partsE, Result.andThen]
  simp [ReflectliteValue.flagAddr, loadVar, isAgg, underlying, Tryd.underlying35, hb, Result.andThen, directE, storeVar, Value.cells, storeCells, Addr.add]
  rw [run_store Tryd.prog W ta _ _ (by rfl)]
  simp [ht, hf]
end Go.Proofs.YthbkklnahhdgcaaDoor.ErrA

/-
  errors.As at the target *api.Errno: the walks, and api.Tell.
-/
namespace Go.Proofs.YthbkklnahhdgcaaDoor.ErrB
open Go Go.RowKit Go.Extern.Stop Go.Stop Go.Extern Go.Proofs.YthbkklnahhdgcaaDoor.ErrA Go.Proofs.YthbkklnahhdgcaaDoor.Lib

set_option maxHeartbeats 4000000 in
theorem as_errno (n : Int) (t : Addr) (old : Value) (w : World) (hg : w.cell? ⟨1, 0, none⟩ = some (.iface 256 (.agg #[.pointer (some ⟨5, 24, none⟩)])))
    (ht0 : w.cell? t = some old) (hf0 : w.frozen? t = false) :
    Calls Tryd.prog 88 #[.iface 35 (.int .i64 n), .iface 204 (.pointer (some t))] w fun ev w' => ev = .returned (.bool true) ∧
      w' = ((((w.alloc (.cells #[.pointer (some t)] 204)).alloc (.cells #[.pointer (some ⟨5, 204, none⟩), .pointer (some ⟨w.heap.size, 0, none⟩), .int .u64 150] 226)).alloc (.cells #[.pointer (some ⟨5, 204, none⟩), .pointer (some ⟨w.heap.size, 0, none⟩), .int .u64 150] 226)).alloc (.cells #[.int .i64 n] 35)).setCell t (.int .i64 n) := by
  have h6 := @run_callFunc_extern Tryd.prog 103 _ (fun args => ReflectliteValue.unpack (args.getD 0 (.tuple #[]))) Tryd.func103 (by kernel_rfl) (by kernel_rfl) (by kernel_rfl) (by kernel_rfl)
  have h7 := @run_callFunc_extern Tryd.prog 104 _ (ReflectliteValue.methodAny (ReflectliteValue.valueError "reflectlite.Value.Type" 0) (fun t _ _ _ => ReflectliteType.toType t)) Tryd.func104 (by kernel_rfl) (by kernel_rfl) (by kernel_rfl) (by kernel_rfl)
  have h8 := @run_callFunc_extern Tryd.prog 105 _ (ReflectliteValue.method (ReflectliteValue.valueError "reflectlite.Value.IsNil" 0) ReflectliteValue.isNil) Tryd.func105 (by kernel_rfl) (by kernel_rfl) (by kernel_rfl) (by kernel_rfl)
  have h27 := @run_callFunc_extern Tryd.prog 193 _ (ReflectliteType.abiMethod fun t => do pure (.int .u8 (← Rtype.kind t))) Tryd.func193 (by kernel_rfl) (by kernel_rfl) (by kernel_rfl) (by kernel_rfl)
  have h37 := @run_callFunc_extern Tryd.prog 207 _ (ReflectliteType.method ReflectliteType.elem) Tryd.func207 (by kernel_rfl) (by kernel_rfl) (by kernel_rfl) (by kernel_rfl)
  have h38 := @run_callFunc_extern Tryd.prog 208 _ (ReflectliteType.relation "Implements" ReflectliteType.implements_) Tryd.func208 (by kernel_rfl) (by kernel_rfl) (by kernel_rfl) (by kernel_rfl)
  have h10 := @run_callFunc_extern Tryd.prog 125 _ ReflectliteType.typeOf Tryd.func125 (by kernel_rfl) (by kernel_rfl) (by kernel_rfl) (by kernel_rfl)
  have h35 := @run_callFunc_extern Tryd.prog 205 _ (ReflectliteType.relation "AssignableTo" ReflectliteType.assignableTo) Tryd.func205 (by kernel_rfl) (by kernel_rfl) (by kernel_rfl) (by kernel_rfl)
  have h11 := @run_callFunc_extern Tryd.prog 126 _ (ReflectliteValue.method (ReflectliteValue.valueError "reflectlite.Value.Elem" 0) ReflectliteValue.elem) Tryd.func126 (by kernel_rfl) (by kernel_rfl) (by kernel_rfl) (by kernel_rfl)
  have h12 := @run_callFunc_extern Tryd.prog 127 _ ReflectliteValue.set Tryd.func127 (by kernel_rfl) (by kernel_rfl) (by kernel_rfl) (by kernel_rfl)
  have tO := typeOfE
  have mA := methodAssignableTo
  have a25 := assignableE
  have v25 := valueOfE
  have f6 := valueOfP
  have f7 := typeP
  have mK := methodKind
  have mE := methodElem
  have mI := methodImplements
  have k27 := kindP
  have k25 := kindE
  have e27 := elemTP
  have i25 := implementsE
  have n8 := isNilP ⟨w.heap.size, 0, none⟩ t ((w.alloc (.cells #[.pointer (some t)] 204)).alloc (.cells #[.pointer (some ⟨5, 204, none⟩), .pointer (some ⟨w.heap.size, 0, none⟩), .int .u64 150] 226)) (by simp)
  have hlt : 1 < w.heap.size := World.block_lt_of_cell? w _ hg
  have hg2 : ((w.alloc (.cells #[.pointer (some t)] 204)).alloc (.cells #[.pointer (some ⟨5, 204, none⟩), .pointer (some ⟨w.heap.size, 0, none⟩), .int .u64 150] 226)).cell? ⟨1, 0, none⟩ = some (.iface 256 (.agg #[.pointer (some ⟨5, 24, none⟩)])) := by
    rw [World.cell?_alloc_lt _ _ ⟨1, 0, none⟩ (by simp; omega), World.cell?_alloc_lt _ _ ⟨1, 0, none⟩ hlt]; exact hg
  have htl : t.block < w.heap.size := World.block_lt_of_cell? w _ ht0
  have el := elemVP ⟨w.heap.size, 0, none⟩ t (((w.alloc (.cells #[.pointer (some t)] 204)).alloc (.cells #[.pointer (some ⟨5, 204, none⟩), .pointer (some ⟨w.heap.size, 0, none⟩), .int .u64 150] 226)).alloc (.cells #[.pointer (some ⟨5, 204, none⟩), .pointer (some ⟨w.heap.size, 0, none⟩), .int .u64 150] 226)) (by rw [World.cell?_alloc_lt _ _ ⟨w.heap.size, 0, none⟩ (by simp; omega)]; simp)
  have st := setE t ⟨w.heap.size + 1 + 1 + 1, 0, none⟩ n old ((((w.alloc (.cells #[.pointer (some t)] 204)).alloc (.cells #[.pointer (some ⟨5, 204, none⟩), .pointer (some ⟨w.heap.size, 0, none⟩), .int .u64 150] 226)).alloc (.cells #[.pointer (some ⟨5, 204, none⟩), .pointer (some ⟨w.heap.size, 0, none⟩), .int .u64 150] 226)).alloc (.cells #[.int .i64 n] 35))
    (by rw [World.cell?_alloc_at _ _ _ _ (by simp)]; rfl)
    (by rw [World.cell?_alloc_lt _ _ t (by simp; omega), World.cell?_alloc_lt _ _ t (by simp; omega), World.cell?_alloc_lt _ _ t (by simp; omega), World.cell?_alloc_lt _ _ t htl]; exact ht0)
    (by rw [World.frozen?_alloc_old _ _ t (by simp; omega), World.frozen?_alloc_old _ _ t (by simp; omega), World.frozen?_alloc_old _ _ t (by simp; omega), World.frozen?_alloc_old _ _ t (Nat.ne_of_lt htl)]; exact hf0)
  go_enter Tryd.func88, Tryd.ntmps88
  go_wp2
  refine wp_loop_rounds 1 ?_
  rw [rounds_succ]
  go_wp2
  go_ret
  exact ⟨rfl, rfl⟩
set_option maxRecDepth 100000 in
set_option maxHeartbeats 4000000 in
theorem as_at (n : Int) (p t : Addr) (old : Value) (w : World) (hg : w.cell? ⟨1, 0, none⟩ = some (.iface 256 (.agg #[.pointer (some ⟨5, 24, none⟩)])))
    (hp : w.cell? p = some (.int .i64 n)) (ht0 : w.cell? t = some old) (hf0 : w.frozen? t = false) :
    Calls Tryd.prog 88 #[.iface 117 (.pointer (some p)), .iface 204 (.pointer (some t))] w fun ev w' => ev = .returned (.bool true) ∧
      w' = ((((w.alloc (.cells #[.pointer (some t)] 204)).alloc (.cells #[.pointer (some ⟨5, 204, none⟩), .pointer (some ⟨w.heap.size, 0, none⟩), .int .u64 150] 226)).alloc (.cells #[.pointer (some ⟨5, 204, none⟩), .pointer (some ⟨w.heap.size, 0, none⟩), .int .u64 150] 226)).alloc (.cells #[.int .i64 n] 35)).setCell t (.int .i64 n) := by
  have h6 := @run_callFunc_extern Tryd.prog 103 _ (fun args => ReflectliteValue.unpack (args.getD 0 (.tuple #[]))) Tryd.func103 (by kernel_rfl) (by kernel_rfl) (by kernel_rfl) (by kernel_rfl)
  have h7 := @run_callFunc_extern Tryd.prog 104 _ (ReflectliteValue.methodAny (ReflectliteValue.valueError "reflectlite.Value.Type" 0) (fun t _ _ _ => ReflectliteType.toType t)) Tryd.func104 (by kernel_rfl) (by kernel_rfl) (by kernel_rfl) (by kernel_rfl)
  have h8 := @run_callFunc_extern Tryd.prog 105 _ (ReflectliteValue.method (ReflectliteValue.valueError "reflectlite.Value.IsNil" 0) ReflectliteValue.isNil) Tryd.func105 (by kernel_rfl) (by kernel_rfl) (by kernel_rfl) (by kernel_rfl)
  have h27 := @run_callFunc_extern Tryd.prog 193 _ (ReflectliteType.abiMethod fun t => do pure (.int .u8 (← Rtype.kind t))) Tryd.func193 (by kernel_rfl) (by kernel_rfl) (by kernel_rfl) (by kernel_rfl)
  have h37 := @run_callFunc_extern Tryd.prog 207 _ (ReflectliteType.method ReflectliteType.elem) Tryd.func207 (by kernel_rfl) (by kernel_rfl) (by kernel_rfl) (by kernel_rfl)
  have h38 := @run_callFunc_extern Tryd.prog 208 _ (ReflectliteType.relation "Implements" ReflectliteType.implements_) Tryd.func208 (by kernel_rfl) (by kernel_rfl) (by kernel_rfl) (by kernel_rfl)
  have h10 := @run_callFunc_extern Tryd.prog 125 _ ReflectliteType.typeOf Tryd.func125 (by kernel_rfl) (by kernel_rfl) (by kernel_rfl) (by kernel_rfl)
  have h35 := @run_callFunc_extern Tryd.prog 205 _ (ReflectliteType.relation "AssignableTo" ReflectliteType.assignableTo) Tryd.func205 (by kernel_rfl) (by kernel_rfl) (by kernel_rfl) (by kernel_rfl)
  have h11 := @run_callFunc_extern Tryd.prog 126 _ (ReflectliteValue.method (ReflectliteValue.valueError "reflectlite.Value.Elem" 0) ReflectliteValue.elem) Tryd.func126 (by kernel_rfl) (by kernel_rfl) (by kernel_rfl) (by kernel_rfl)
  have h12 := @run_callFunc_extern Tryd.prog 127 _ ReflectliteValue.set Tryd.func127 (by kernel_rfl) (by kernel_rfl) (by kernel_rfl) (by kernel_rfl)
  have tO := typeOfE
  have tO' := typeOfAt
  have aAt := assignableAt
  have tA1 : ∀ (v : Value) (xT : TypeId) (w : World), (Instr.typeAssert (.iface 117 v) xT 261 true).run Tryd.prog w = .ok (.tuple #[.nilIface, .bool false]) w := fun v xT w => run_typeAssert_lacksB Tryd.underlying261 (by kernel_rfl) (by kernel_rfl) v xT w
  have tA2 : ∀ (v : Value) (xT : TypeId) (w : World), (Instr.typeAssert (.iface 117 v) xT 179 true).run Tryd.prog w = .ok (.tuple #[.iface 117 v, .bool true]) w := fun v xT w => run_typeAssert_hasB Tryd.underlying179 (by kernel_rfl) v xT w
  have nA : ∀ (a : Addr) (w : World), (nilAhead 436 117 (.pointer (some a)) "Unwrap").run Tryd.prog w = .ok (some false) w := fun a w => by kernel_rfl
  have mU : ∀ (a : Addr) (w : World), (Go.method 436 117 (.pointer (some a)) "Unwrap").run Tryd.prog w = .ok (198, .pointer (some a)) w := fun a w => by kernel_rfl
  have mA := methodAssignableTo
  have a25 := assignableE
  have v25 := valueOfE
  have f6 := valueOfP
  have f7 := typeP
  have mK := methodKind
  have mE := methodElem
  have mI := methodImplements
  have k27 := kindP
  have k25 := kindE
  have e27 := elemTP
  have i25 := implementsE
  have n8 := isNilP ⟨w.heap.size, 0, none⟩ t ((w.alloc (.cells #[.pointer (some t)] 204)).alloc (.cells #[.pointer (some ⟨5, 204, none⟩), .pointer (some ⟨w.heap.size, 0, none⟩), .int .u64 150] 226)) (by simp)
  have hlt : 1 < w.heap.size := World.block_lt_of_cell? w _ hg
  have hg2 : ((w.alloc (.cells #[.pointer (some t)] 204)).alloc (.cells #[.pointer (some ⟨5, 204, none⟩), .pointer (some ⟨w.heap.size, 0, none⟩), .int .u64 150] 226)).cell? ⟨1, 0, none⟩ = some (.iface 256 (.agg #[.pointer (some ⟨5, 24, none⟩)])) := by
    rw [World.cell?_alloc_lt _ _ ⟨1, 0, none⟩ (by simp; omega), World.cell?_alloc_lt _ _ ⟨1, 0, none⟩ hlt]; exact hg
  have hpl : p.block < w.heap.size := World.block_lt_of_cell? w _ hp
  have hp3 : (((w.alloc (.cells #[.pointer (some t)] 204)).alloc (.cells #[.pointer (some ⟨5, 204, none⟩), .pointer (some ⟨w.heap.size, 0, none⟩), .int .u64 150] 226)).alloc (.cells #[.pointer (some ⟨5, 204, none⟩), .pointer (some ⟨w.heap.size, 0, none⟩), .int .u64 150] 226)).cell? p = some (.int .i64 n) := by
    rw [World.cell?_alloc_lt _ _ p (by simp; omega), World.cell?_alloc_lt _ _ p (by simp; omega), World.cell?_alloc_lt _ _ p hpl]; exact hp
  have htl : t.block < w.heap.size := World.block_lt_of_cell? w _ ht0
  have el := elemVP ⟨w.heap.size, 0, none⟩ t (((w.alloc (.cells #[.pointer (some t)] 204)).alloc (.cells #[.pointer (some ⟨5, 204, none⟩), .pointer (some ⟨w.heap.size, 0, none⟩), .int .u64 150] 226)).alloc (.cells #[.pointer (some ⟨5, 204, none⟩), .pointer (some ⟨w.heap.size, 0, none⟩), .int .u64 150] 226)) (by rw [World.cell?_alloc_lt _ _ ⟨w.heap.size, 0, none⟩ (by simp; omega)]; simp)
  have st := setE t ⟨w.heap.size + 1 + 1 + 1, 0, none⟩ n old ((((w.alloc (.cells #[.pointer (some t)] 204)).alloc (.cells #[.pointer (some ⟨5, 204, none⟩), .pointer (some ⟨w.heap.size, 0, none⟩), .int .u64 150] 226)).alloc (.cells #[.pointer (some ⟨5, 204, none⟩), .pointer (some ⟨w.heap.size, 0, none⟩), .int .u64 150] 226)).alloc (.cells #[.int .i64 n] 35))
    (by rw [World.cell?_alloc_at _ _ _ _ (by simp)]; rfl)
    (by rw [World.cell?_alloc_lt _ _ t (by simp; omega), World.cell?_alloc_lt _ _ t (by simp; omega), World.cell?_alloc_lt _ _ t (by simp; omega), World.cell?_alloc_lt _ _ t htl]; exact ht0)
    (by rw [World.frozen?_alloc_old _ _ t (by simp; omega), World.frozen?_alloc_old _ _ t (by simp; omega), World.frozen?_alloc_old _ _ t (by simp; omega), World.frozen?_alloc_old _ _ t (Nat.ne_of_lt htl)]; exact hf0)
  go_enter Tryd.func88, Tryd.ntmps88
  go_wp2
  refine wp_loop_rounds 2 ?_
  rw [rounds_succ]
  go_wp2
  rw [rounds_succ]
  go_wp2
  go_ret
  exact ⟨rfl, rfl⟩
end Go.Proofs.YthbkklnahhdgcaaDoor.ErrB

/-
  What an error tells: api.Tell, plain.Place, and the laws' at and bare, each at nil, at an Errno, and at an At.
-/
namespace Go.Proofs.YthbkklnahhdgcaaDoor.ErrC
open Go Go.RowKit Go.Proofs.YthbkklnahhdgcaaDoor.Lib Go.Proofs.YthbkklnahhdgcaaDoor.ErrB

/-- The one package-level variable that errors.As reads. -/
def EtIs (w : World) : Prop := w.cell? ⟨1, 0, none⟩ = some (.iface 256 (.agg #[.pointer (some ⟨5, 24, none⟩)]))

theorem tell_nil (w : World) : Calls Tryd.prog 68 #[.nilIface] w fun e w' => e = .returned (.int .i64 0) ∧ w' = w := by
  go_enter Tryd.func68, Tryd.ntmps68
  go_wp2
  go_ret
  exact ⟨rfl, rfl⟩

set_option maxRecDepth 100000 in
set_option maxHeartbeats 1000000 in
theorem tell_errno (n : Int) (w : World) (hg : EtIs w) :
    Calls Tryd.prog 68 #[.iface 35 (.int .i64 n)] w fun e w' => e = .returned (.int .i64 n) ∧ Below w.heap.size w w' := by
  have hlt : 1 < w.heap.size := World.block_lt_of_cell? w _ hg
  have hgA : EtIs (w.alloc (.cells #[.int .i64 0] 35)) := by
    unfold EtIs; rw [World.cell?_alloc_lt _ _ ⟨1, 0, none⟩ hlt]; exact hg
  go_enter Tryd.func68, Tryd.ntmps68
  go_wp2_with (go_at_call 88; refine (as_errno n _ (.int .i64 0) _ hgA (by simp) (by simp)).mono ?_; rintro e w' ⟨rfl, rfl⟩)
  go_ret
  refine ⟨?_, ?_⟩
  · simp
  · repeat (refine Below.alloc ?_ (by first | exact Nat.le_refl _ | (simp; done) | (simp; omega)) _)
    exact Below.refl _ _

set_option maxRecDepth 100000 in
set_option maxHeartbeats 1000000 in
theorem tell_at (n : Int) (p : Addr) (w : World) (hp : w.cell? p = some (.int .i64 n)) (hg : EtIs w) :
    Calls Tryd.prog 68 #[.iface 117 (.pointer (some p))] w fun e w' => e = .returned (.int .i64 n) ∧ Below w.heap.size w w' := by
  have hlt : 1 < w.heap.size := World.block_lt_of_cell? w _ hg
  have hpl : p.block < w.heap.size := World.block_lt_of_cell? w _ hp
  have hpA : (w.alloc (.cells #[.int .i64 0] 35)).cell? p = some (.int .i64 n) := by
    rw [World.cell?_alloc_lt _ _ p hpl]; exact hp
  have hgA : EtIs (w.alloc (.cells #[.int .i64 0] 35)) := by
    unfold EtIs; rw [World.cell?_alloc_lt _ _ ⟨1, 0, none⟩ hlt]; exact hg
  go_enter Tryd.func68, Tryd.ntmps68
  go_wp2_with (go_at_call 88; refine (as_at n p _ (.int .i64 0) _ hgA hpA (by simp) (by simp)).mono ?_; rintro e w' ⟨rfl, rfl⟩)
  go_ret
  refine ⟨?_, ?_⟩
  · simp
  · repeat (refine Below.alloc ?_ (by first | exact Nat.le_refl _ | (simp; done) | (simp; omega)) _)
    exact Below.refl _ _

/-! ### plain.Place -/
set_option maxRecDepth 100000 in
theorem place_nil (w : World) : Calls Tryd.prog 28 #[.nilIface] w fun e w' => e = .returned (.tuple #[.int .i64 0, .int .i64 (-1)]) ∧ w' = w := by
  go_enter Tryd.func28, Tryd.ntmps28
  go_wp2_with (go_at_call 68; refine (tell_nil _).mono ?_; rintro e w' ⟨rfl, rfl⟩)
  refine wp_loop_rounds 1 ?_
  rw [rounds_succ]
  go_wp2
  go_ret2
  exact ⟨rfl, rfl⟩

set_option maxRecDepth 100000 in
set_option maxHeartbeats 1000000 in
theorem place_errno (n : Int) (w : World) (hg : EtIs w) :
    Calls Tryd.prog 28 #[.iface 35 (.int .i64 n)] w fun e w' => e = .returned (.tuple #[.int .i64 n, .int .i64 (-1)]) ∧ Below w.heap.size w w' := by
  have tA1 : ∀ (v : Value) (w : World), (Instr.typeAssert (.iface 35 v) 24 117 true).run Tryd.prog w = .ok (.tuple #[.pointer none, .bool false]) w := fun v w => by kernel_rfl
  have tA2 : ∀ (v : Value) (xT : TypeId) (w : World), (Instr.typeAssert (.iface 35 v) xT 179 true).run Tryd.prog w = .ok (.tuple #[.nilIface, .bool false]) w := fun v xT w => run_typeAssert_lacksB Tryd.underlying179 (by kernel_rfl) (by kernel_rfl) v xT w
  go_enter Tryd.func28, Tryd.ntmps28
  go_wp2_with (go_at_call 68; refine (tell_errno n _ hg).mono ?_; rintro e w1 ⟨rfl, hb⟩)
  refine wp_loop_rounds 1 ?_
  rw [rounds_succ]
  go_wp2
  go_ret2
  exact ⟨rfl, hb⟩

set_option maxRecDepth 100000 in
set_option maxHeartbeats 1000000 in
theorem place_at (n k : Int) (pb po : Nat) (w : World) (hp : w.cell? ⟨pb, po, none⟩ = some (.int .i64 n)) (hq : w.cell? ⟨pb, po + 1, none⟩ = some (.int .i64 k)) (hg : EtIs w) :
    Calls Tryd.prog 28 #[.iface 117 (.pointer (some ⟨pb, po, none⟩))] w fun e w' => e = .returned (.tuple #[.int .i64 n, .int .i64 k]) ∧ Below w.heap.size w w' := by
  have tA1 : ∀ (v : Value) (w : World), (Instr.typeAssert (.iface 117 v) 24 117 true).run Tryd.prog w = .ok (.tuple #[v, .bool true]) w := fun v w => by kernel_rfl
  have hl : pb < w.heap.size := World.block_lt_of_cell? w _ hp
  go_enter Tryd.func28, Tryd.ntmps28
  go_wp2_with (go_at_call 68; refine (tell_at n _ _ hp hg).mono ?_; rintro e w1 ⟨rfl, hb⟩)
  have hq1 : w1.cell? ⟨pb, po + 1, none⟩ = some (.int .i64 k) := by rw [(bcell hb).1 _ _ hl]; exact hq
  refine wp_loop_rounds 1 ?_
  rw [rounds_succ]
  go_wp2
  go_quiet (fail)
  go_wp2
  go_ret2
  exact ⟨rfl, below_drewN hb _⟩

theorem EtIs.alloc {w : World} (h : EtIs w) (o : Obj) : EtIs (w.alloc o) := by
  unfold EtIs; rw [World.cell?_alloc_lt _ _ ⟨1, 0, none⟩ (World.block_lt_of_cell? w _ h)]; exact h
theorem EtIs.below {w w' : World} {B : Nat} (h : EtIs w) (hb : Below B w w') (hB : 1 < B) : EtIs w' := by
  unfold EtIs; rw [hb.cell hB]; exact h

/-! ### the laws' at and bare -/

set_option maxRecDepth 100000 in
set_option maxHeartbeats 1000000 in
theorem at_errno (n : Int) (fe fp : Int) (w : World) (hg : EtIs w):
    Calls Tryd.prog 19 #[.iface 35 (.int .i64 n), .agg #[.int .i64 fe, .int .i64 fp]] w fun e w' => e = .returned (.bool ((n == fe) && ((-1 : Int) == fp))) ∧ Below w.heap.size w w' := by
  rcases h : (n == fe) with _ | _
  all_goals
    go_enter Tryd.func19, Tryd.ntmps19
    go_wp2_with (go_at_call 28; refine (place_errno n _ (EtIs.alloc hg _)).mono ?_; rintro e w1 ⟨rfl, hb⟩; have hb' : Below w.heap.size w w1 := ((Below.refl _ _).alloc (Nat.le_refl _) _).trans (hb.mono (by simp)); have g0 : w1.cell? ⟨w.heap.size, 0, none⟩ = some (.int .i64 fe) := (by rw [hb.cell (by simp)]; simp); have g1 : w1.cell? ⟨w.heap.size, 1, none⟩ = some (.int .i64 fp) := (by rw [hb.cell (by simp)]; simp))
    go_wp2
    go_ret
    exact ⟨by simp, hb'⟩

set_option maxRecDepth 100000 in
set_option maxHeartbeats 1000000 in
theorem at_at (n k : Int) (pb po : Nat) (fe fp : Int) (w : World) (hp : w.cell? ⟨pb, po, none⟩ = some (.int .i64 n)) (hq : w.cell? ⟨pb, po + 1, none⟩ = some (.int .i64 k)) (hg : EtIs w):
    Calls Tryd.prog 19 #[.iface 117 (.pointer (some ⟨pb, po, none⟩)), .agg #[.int .i64 fe, .int .i64 fp]] w fun e w' => e = .returned (.bool ((n == fe) && (k == fp))) ∧ Below w.heap.size w w' := by
  have hl : pb < w.heap.size := World.block_lt_of_cell? w _ hp
  have hpA : (w.alloc (.cells #[.int .i64 fe, .int .i64 fp] 48)).cell? ⟨pb, po, none⟩ = some (.int .i64 n) := by rw [World.cell?_alloc_lt _ _ ⟨pb, po, none⟩ hl]; exact hp
  have hqA : (w.alloc (.cells #[.int .i64 fe, .int .i64 fp] 48)).cell? ⟨pb, po + 1, none⟩ = some (.int .i64 k) := by rw [World.cell?_alloc_lt _ _ ⟨pb, po + 1, none⟩ hl]; exact hq
  rcases h : (n == fe) with _ | _
  all_goals
    go_enter Tryd.func19, Tryd.ntmps19
    go_wp2_with (go_at_call 28; refine (place_at n k pb po _ hpA hqA (EtIs.alloc hg _)).mono ?_; rintro e w1 ⟨rfl, hb⟩; have hb' : Below w.heap.size w w1 := ((Below.refl _ _).alloc (Nat.le_refl _) _).trans (hb.mono (by simp)); have g0 : w1.cell? ⟨w.heap.size, 0, none⟩ = some (.int .i64 fe) := (by rw [hb.cell (by simp)]; simp); have g1 : w1.cell? ⟨w.heap.size, 1, none⟩ = some (.int .i64 fp) := (by rw [hb.cell (by simp)]; simp))
    go_wp2
    go_ret
    exact ⟨by simp, hb'⟩

set_option maxRecDepth 100000 in
set_option maxHeartbeats 1000000 in
theorem at_nil  (fe fp : Int) (w : World) :
    Calls Tryd.prog 19 #[.nilIface, .agg #[.int .i64 fe, .int .i64 fp]] w fun e w' => e = .returned (.bool (((0 : Int) == fe) && ((-1 : Int) == fp))) ∧ Below w.heap.size w w' := by
  rcases h : ((0 : Int) == fe) with _ | _
  all_goals
    go_enter Tryd.func19, Tryd.ntmps19
    go_wp2_with (go_at_call 28; refine (place_nil _).mono ?_; rintro e w1 ⟨rfl, rfl⟩)
    go_wp2
    go_ret
    exact ⟨by simp, (Below.refl _ _).alloc (Nat.le_refl _) _⟩

theorem bareF (n : Int) (w : World) : Calls Tryd.prog 24 #[.int .i64 n] w fun e w' => e = .returned (.agg #[.int .i64 n, .int .i64 (-1)]) ∧ Below w.heap.size w w' := by
  go_enter Tryd.func24, Tryd.ntmps24
  go_wp2
  exact bodyPost_ret (v := .agg #[.int .i64 n, .int .i64 (-1)]) (by simp [results, Tryd.results24, go_sem]) rfl ⟨rfl, (Below.refl _ _).alloc (Nat.le_refl _) _⟩

set_option maxHeartbeats 1000000 in
theorem bare_nil  (fe : Int) (w : World) :
    Calls Tryd.prog 14 #[.nilIface, .int .i64 fe] w fun e w' => e = .returned (.bool ((0 : Int) == fe)) ∧ Below w.heap.size w w' := by
  go_enter Tryd.func14, Tryd.ntmps14
  go_wp2_with (first | (go_at_call 24; refine (bareF _ _).mono ?_; rintro e w1 ⟨rfl, hb⟩) | (go_at_call 19; refine (at_nil _ _ _).mono ?_; rintro e w2 ⟨rfl, hb2⟩))
  go_ret
  exact ⟨rfl, hb.trans (hb2.mono hb.size)⟩

set_option maxHeartbeats 1000000 in
theorem bare_errno (n : Int) (fe : Int) (w : World) (hg : EtIs w):
    Calls Tryd.prog 14 #[.iface 35 (.int .i64 n), .int .i64 fe] w fun e w' => e = .returned (.bool (n == fe)) ∧ Below w.heap.size w w' := by
  go_enter Tryd.func14, Tryd.ntmps14
  go_wp2_with (first | (go_at_call 24; refine (bareF _ _).mono ?_; rintro e w1 ⟨rfl, hb⟩) | (go_at_call 19; refine (at_errno n _ _ _ (hg.below hb (World.block_lt_of_cell? w _ hg))).mono ?_; rintro e w2 ⟨rfl, hb2⟩))
  go_ret
  exact ⟨rfl, hb.trans (hb2.mono hb.size)⟩

set_option maxHeartbeats 1000000 in
theorem bare_at (n k : Int) (pb po : Nat) (fe : Int) (w : World) (hp : w.cell? ⟨pb, po, none⟩ = some (.int .i64 n)) (hq : w.cell? ⟨pb, po + 1, none⟩ = some (.int .i64 k)) (hg : EtIs w):
    Calls Tryd.prog 14 #[.iface 117 (.pointer (some ⟨pb, po, none⟩)), .int .i64 fe] w fun e w' => e = .returned (.bool ((n == fe) && (k == -1))) ∧ Below w.heap.size w w' := by
  have hl : pb < w.heap.size := World.block_lt_of_cell? w _ hp
  have hg0 : 1 < w.heap.size := World.block_lt_of_cell? w _ hg
  go_enter Tryd.func14, Tryd.ntmps14
  go_wp2_with (first | (go_at_call 24; refine (bareF _ _).mono ?_; rintro e w1 ⟨rfl, hb⟩; have hp1 : w1.cell? ⟨pb, po, none⟩ = some (.int .i64 n) := (by rw [hb.cell hl]; exact hp); have hq1 : w1.cell? ⟨pb, po + 1, none⟩ = some (.int .i64 k) := (by rw [hb.cell hl]; exact hq)) | (go_at_call 19; refine (at_at n k pb po _ _ _ hp1 hq1 (hg.below hb hg0)).mono ?_; rintro e w2 ⟨rfl, hb2⟩))
  go_ret
  exact ⟨rfl, hb.trans (hb2.mono hb.size)⟩
end Go.Proofs.YthbkklnahhdgcaaDoor.ErrC

/-
  An error's value (nothing, an Errno, an At), and what the laws' at says of it.
-/
namespace Go.Proofs.YthbkklnahhdgcaaDoor.ErrD
open Go Go.Proofs Go.RowKit Lib ErrC

/-- An error's value: nothing, an Errno, or an At of an Errno at a place. -/
def ErrIs (w : World) (v : Value) (e p : Int) : Prop :=
  (e = 0 ∧ p = -1 ∧ v = .nilIface) ∨ (e ≠ 0 ∧ p = -1 ∧ v = .iface 35 (.int .i64 e)) ∨ ∃ b, v = .iface 117 (.pointer (some ⟨b, 0, none⟩)) ∧ w.heap[b]? = some (.cells #[.int .i64 e, .int .i64 p] 118 (0, 0)) ∧ e ≠ 0

theorem ErrIs.below {w w' : World} {v : Value} {e p : Int} {B : Nat} (h : ErrIs w v e p) (hb : Below B w w') (hB : w.heap.size ≤ B) : ErrIs w' v e p := by
  rcases h with h | h | ⟨b, h1, h2, h3⟩
  · exact Or.inl h
  · exact Or.inr (Or.inl h)
  · refine Or.inr (Or.inr ⟨b, h1, ?_, h3⟩)
    rw [hb.block b (Nat.lt_of_lt_of_le (Array.getElem?_eq_some_iff.mp h2).1 hB)]
    exact h2

theorem at_is {w : World} {v : Value} {e p : Int} (h : ErrIs w v e p) (hg : EtIs w) :
    Calls Tryd.prog 19 #[v, .agg #[.int .i64 e, .int .i64 p]] w fun r w' => r = .returned (.bool true) ∧ Below w.heap.size w w' := by
  rcases h with ⟨rfl, rfl, rfl⟩ | ⟨_, rfl, rfl⟩ | ⟨b, rfl, hb, _⟩
  · refine (at_nil 0 (-1) w).mono ?_
    rintro r w' ⟨rfl, h⟩
    exact ⟨rfl, h⟩
  · refine (at_errno e e (-1) w hg).mono ?_
    rintro r w' ⟨rfl, h⟩
    exact ⟨by simp, h⟩
  · refine (at_at e p b 0 e p w (Lib.cell_of_block hb (by simp)) (Lib.cell_of_block hb (by simp)) hg).mono ?_
    rintro r w' ⟨rfl, h⟩
    exact ⟨by simp, h⟩
end Go.Proofs.YthbkklnahhdgcaaDoor.ErrD
