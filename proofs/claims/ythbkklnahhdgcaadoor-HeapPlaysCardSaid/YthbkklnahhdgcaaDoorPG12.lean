/-
  errors.As at the target *api.Errno, after the guide's worked example of errors.As (Derived/Test/ToyasAs.lean): a nil error; an api.Errno; an *api.At, which unwraps to an api.Errno.
-/
import Derived.Test.YthbkklnahhdgcaaDoorProg
import Derived.WalkKit
import Derived.LaidEql
import Derived.Stop.Asserts
import Derived.RowKitTokens
import Derived.Test.YthbkklnahhdgcaaDoorPG00
import Derived.BigQuiet
import Derived.Test.YthbkklnahhdgcaaDoorPG10
import Derived.Test.YthbkklnahhdgcaaDoorPG11
set_option maxRecDepth 100000
set_option maxHeartbeats 4000000
namespace Go.Proofs.YthbkklnahhdgcaaDoor.ErrA
open Go Go.RowKit Go.Extern.Stop Go.Stop Go.Extern

/-- errors.As(nil, target). -/
theorem as_nil (t : Value) (w : World) :
    Calls Tryd.prog 88 #[.nilIface, t] w fun e w' => e = .returned (.bool false) ∧ w' = w := by
  go_enter Tryd.func88, Tryd.ntmps88
  go_wp2
  go_ret
  exact ⟨rfl, rfl⟩

theorem valueOfP (t : Addr) (w : World) : (ReflectliteValue.unpack (.iface 204 (.pointer (some t)))).run Tryd.prog w
    = .ok (.agg #[.pointer (some ⟨5, 204, none⟩), .pointer (some ⟨w.heap.size, 0, none⟩), .int .u64 150]) (w.alloc (.cells #[.pointer (some t)] 204)) := by kernel_rfl
theorem valueOfE (n : Int) (w : World) : (ReflectliteValue.unpack (.iface 35 (.int .i64 n))).run Tryd.prog w
    = .ok (.agg #[.pointer (some ⟨5, 35, none⟩), .pointer (some ⟨w.heap.size, 0, none⟩), .int .u64 130]) (w.alloc (.cells #[.int .i64 n] 35)) := by kernel_rfl

theorem typeP (a : Addr) (w : World) : (ReflectliteValue.methodAny (ReflectliteValue.valueError "reflectlite.Value.Type" 0) (fun t _ _ _ => ReflectliteType.toType t) #[.agg #[.pointer (some ⟨5, 204, none⟩), .pointer (some a), .int .u64 150]]).run Tryd.prog w
    = .ok (.iface 256 (.agg #[.pointer (some ⟨5, 204, none⟩)])) w := by kernel_rfl
theorem methodKind (h : Value) (w : World) : (Go.method 436 256 (.agg #[h]) "Kind").run Tryd.prog w = .ok (193, h) w := by kernel_rfl
theorem kindP (w : World) : ((ReflectliteType.abiMethod fun t => Functor.map (fun a : Nat => Value.int IntKind.u8 (a : Int)) (Rtype.kind t)) #[.pointer (some ⟨5, 204, none⟩)]).run Tryd.prog w = .ok (.int .u8 22) w := by kernel_rfl
theorem kindE (w : World) : ((ReflectliteType.abiMethod fun t => Functor.map (fun a : Nat => Value.int IntKind.u8 (a : Int)) (Rtype.kind t)) #[.pointer (some ⟨5, 35, none⟩)]).run Tryd.prog w = .ok (.int .u8 2) w := by kernel_rfl
theorem rlm (z : Sem Value) (f : TypeId → Addr → Nat → Nat → Sem Value) (v : Value) :
    ReflectliteValue.method z f #[v] = (do match ← ReflectliteValue.parts v with | none => z | some (t, a, fl) => f t a fl (fl % 32)) := rfl
theorem partsP (a : Addr) (w : World) : (ReflectliteValue.parts (.agg #[.pointer (some ⟨5, 204, none⟩), .pointer (some a), .int .u64 150])).run Tryd.prog w = .ok (some (204, a, 150)) w := by kernel_rfl
theorem isNilP (a p : Addr) (W : World) (ha : W.cell? a = some (.pointer (some p))) :
    (ReflectliteValue.method (ReflectliteValue.valueError "reflectlite.Value.IsNil" 0) ReflectliteValue.isNil #[.agg #[.pointer (some ⟨5, 204, none⟩), .pointer (some a), .int .u64 150]]).run Tryd.prog W = .ok (.bool false) W := by
  rw [rlm]
  simp only [Sem.run_bind, partsP, Result.andThen]
  simp [ReflectliteValue.isNil, loadVar, isAgg, underlying, Tryd.underlying204, ha, Result.andThen]
theorem methodElem (h : Value) (w : World) : (Go.method 436 256 (.agg #[h]) "Elem").run Tryd.prog w = .ok (207, .agg #[h]) w := by kernel_rfl
theorem methodImplements (h : Value) (w : World) : (Go.method 436 256 (.agg #[h]) "Implements").run Tryd.prog w = .ok (208, .agg #[h]) w := by kernel_rfl
theorem methodAssignableTo (h : Value) (w : World) : (Go.method 436 256 (.agg #[h]) "AssignableTo").run Tryd.prog w = .ok (205, .agg #[h]) w := by kernel_rfl
theorem elemTP (w : World) : (ReflectliteType.method ReflectliteType.elem #[.agg #[.pointer (some ⟨5, 204, none⟩)]]).run Tryd.prog w = .ok (.iface 256 (.agg #[.pointer (some ⟨5, 35, none⟩)])) w := by kernel_rfl
theorem implementsE (w : World) : (ReflectliteType.relation "Implements" ReflectliteType.implements_ #[.agg #[.pointer (some ⟨5, 35, none⟩)], .iface 256 (.agg #[.pointer (some ⟨5, 24, none⟩)])]).run Tryd.prog w = .ok (.bool true) w := by kernel_rfl
theorem typeOfE (v : Value) (w : World) : (ReflectliteType.typeOf #[.iface 35 v]).run Tryd.prog w = .ok (.iface 256 (.agg #[.pointer (some ⟨5, 35, none⟩)])) w := by kernel_rfl
theorem typeOfAt (v : Value) (w : World) : (ReflectliteType.typeOf #[.iface 117 v]).run Tryd.prog w = .ok (.iface 256 (.agg #[.pointer (some ⟨5, 117, none⟩)])) w := by kernel_rfl
theorem assignableE (w : World) : (ReflectliteType.relation "AssignableTo" ReflectliteType.assignableTo #[.agg #[.pointer (some ⟨5, 35, none⟩)], .iface 256 (.agg #[.pointer (some ⟨5, 35, none⟩)])]).run Tryd.prog w = .ok (.bool true) w := by kernel_rfl
theorem assignableAt (w : World) : (ReflectliteType.relation "AssignableTo" ReflectliteType.assignableTo #[.agg #[.pointer (some ⟨5, 117, none⟩)], .iface 256 (.agg #[.pointer (some ⟨5, 35, none⟩)])]).run Tryd.prog w = .ok (.bool false) w := by kernel_rfl
theorem elemOfP (w : World) : (Rtype.elem? 204).run Tryd.prog w = .ok (some 35) w := by kernel_rfl
theorem mkE (p : Addr) (w : World) : (ReflectliteValue.mk 35 p ReflectliteValue.flagAddr).run Tryd.prog w = .ok (.agg #[.pointer (some ⟨5, 35, none⟩), .pointer (some p), .int .u64 386]) w := by kernel_rfl
theorem elemVP (a p : Addr) (W : World) (ha : W.cell? a = some (.pointer (some p))) :
    (ReflectliteValue.method (ReflectliteValue.valueError "reflectlite.Value.Elem" 0) ReflectliteValue.elem #[.agg #[.pointer (some ⟨5, 204, none⟩), .pointer (some a), .int .u64 150]]).run Tryd.prog W
      = .ok (.agg #[.pointer (some ⟨5, 35, none⟩), .pointer (some p), .int .u64 386]) W := by
  rw [rlm]
  simp only [Sem.run_bind, partsP, Result.andThen]
  simp [ReflectliteValue.elem, loadVar, isAgg, underlying, Tryd.underlying204, ha, Result.andThen, elemOfP, mkE]
theorem rls (v x : Value) : ReflectliteValue.set #[v, x] = (do
    let (some (dst, a, fl), some (src, b, _)) := (← ReflectliteValue.parts v, ← ReflectliteValue.parts x)
      | unsupported (.noEntry "extern/(internal/reflectlite.Value).Set.zeroValue")
    if fl / ReflectliteValue.flagAddr % 2 == 0 then unsupported (.noEntry "extern/(internal/reflectlite.Value).Set.unaddressable")
    let val ← loadVar src b
    if ← Rtype.directlyAssignable dst src then storeVar dst a val
    else if ← Rtype.implements dst src then
      if (← Rtype.kind src) == 20 then
        match val with
        | .nilIface => unsupported (.noEntry "extern/reflectlite: a nil value of one interface type handed on as a value of another")
        | _ => storeVar dst a val
      else storeVar dst a (.iface src val)
    else panicString ("reflectlite.Set: value of type " ++ (← Rtype.spelt src) ++ " is not assignable to type " ++ (← Rtype.spelt dst))
    pure (.tuple #[])) := rfl
theorem partsEa (a : Addr) (w : World) : (ReflectliteValue.parts (.agg #[.pointer (some ⟨5, 35, none⟩), .pointer (some a), .int .u64 386])).run Tryd.prog w = .ok (some (35, a, 386)) w := by kernel_rfl
theorem partsE (a : Addr) (w : World) : (ReflectliteValue.parts (.agg #[.pointer (some ⟨5, 35, none⟩), .pointer (some a), .int .u64 130])).run Tryd.prog w = .ok (some (35, a, 130)) w := by kernel_rfl
theorem directE (w : World) : (Rtype.directlyAssignable 35 35).run Tryd.prog w = .ok true w := by kernel_rfl
theorem setE (ta b : Addr) (n : Int) (old : Value) (W : World) (hb : W.cell? b = some (.int .i64 n)) (ht : W.cell? ta = some old) (hf : W.frozen? ta = false) :
    (ReflectliteValue.set #[.agg #[.pointer (some ⟨5, 35, none⟩), .pointer (some ta), .int .u64 386], .agg #[.pointer (some ⟨5, 35, none⟩), .pointer (some b), .int .u64 130]]).run Tryd.prog W
      = .ok (.tuple #[]) (W.setCell ta (.int .i64 n)) := by
  rw [rls]
  simp only [Sem.run_bind, partsEa, partsE, Result.andThen]
  simp [ReflectliteValue.flagAddr, loadVar, isAgg, underlying, Tryd.underlying35, hb, Result.andThen, directE, storeVar, Value.cells, storeCells, Addr.add]
  rw [run_store Tryd.prog W ta _ _ (by rfl)]
  simp [ht, hf]
end Go.Proofs.YthbkklnahhdgcaaDoor.ErrA

namespace Go.Proofs.YthbkklnahhdgcaaDoor.ErrB
open Go Go.RowKit Go.Extern.Stop Go.Stop Go.Extern ErrA Go.Proofs.YthbkklnahhdgcaaDoor.Lib

theorem as_errno (n : Int) (t : Addr) (old : Value) (w : World) (hg : w.cell? ⟨1, 0, none⟩ = some (.iface 256 (.agg #[.pointer (some ⟨5, 24, none⟩)])))
    (ht0 : w.cell? t = some old) (hf0 : w.frozen? t = false) :
    Calls Tryd.prog 88 #[.iface 35 (.int .i64 n), .iface 204 (.pointer (some t))] w fun ev w' => ev = .returned (.bool true) ∧
      w' = ((((w.alloc (.cells #[.pointer (some t)] 204)).alloc (.cells #[.pointer (some ⟨5, 204, none⟩), .pointer (some ⟨w.heap.size, 0, none⟩), .int .u64 150] 226)).alloc (.cells #[.pointer (some ⟨5, 204, none⟩), .pointer (some ⟨w.heap.size, 0, none⟩), .int .u64 150] 226)).alloc (.cells #[.int .i64 n] 35)).setCell t (.int .i64 n) := by
  have h6 := @run_callFunc_extern Tryd.prog 103 _ (fun args => ReflectliteValue.unpack (args.getD 0 (.tuple #[]))) Tryd.func103 (by kernel_rfl) (by kernel_rfl) (by kernel_rfl) (by kernel_rfl)
  have h7 := @run_callFunc_extern Tryd.prog 104 _ (ReflectliteValue.methodAny (ReflectliteValue.valueError "reflectlite.Value.Type" 0) (fun t _ _ _ => ReflectliteType.toType t)) Tryd.func104 (by kernel_rfl) (by kernel_rfl) (by kernel_rfl) (by kernel_rfl)
  have h8 := @run_callFunc_extern Tryd.prog 105 _ (ReflectliteValue.method (ReflectliteValue.valueError "reflectlite.Value.IsNil" 0) ReflectliteValue.isNil) Tryd.func105 (by kernel_rfl) (by kernel_rfl) (by kernel_rfl) (by kernel_rfl)
  have h27 := @run_callFunc_extern Tryd.prog 193 _ (ReflectliteType.abiMethod fun t => do pure (.int .u8 (← Rtype.kind t))) Tryd.func193 (by kernel_rfl) (by kernel_rfl) (by kernel_rfl) (by kernel_rfl)
  have h37 := @run_callFunc_extern Tryd.prog 207 _ (ReflectliteType.method ReflectliteType.elem) Tryd.func207 (by kernel_rfl) (by kernel_rfl) (by kernel_rfl) (by kernel_rfl)
  have h38 := @run_callFunc_extern Tryd.prog 208 _ (ReflectliteType.relation "Implements" ReflectliteType.implements_) Tryd.func208 (by kernel_rfl) (by kernel_rfl) (by kernel_rfl) (by kernel_rfl)
  have h10 := @run_callFunc_extern Tryd.prog 125 _ ReflectliteType.typeOf Tryd.func125 (by kernel_rfl) (by kernel_rfl) (by kernel_rfl) (by kernel_rfl)
  have h35 := @run_callFunc_extern Tryd.prog 205 _ (ReflectliteType.relation "AssignableTo" ReflectliteType.assignableTo) Tryd.func205 (by kernel_rfl) (by kernel_rfl) (by kernel_rfl) (by kernel_rfl)
  have h11 := @run_callFunc_extern Tryd.prog 126 _ (ReflectliteValue.method (ReflectliteValue.valueError "reflectlite.Value.Elem" 0) ReflectliteValue.elem) Tryd.func126 (by kernel_rfl) (by kernel_rfl) (by kernel_rfl) (by kernel_rfl)
  have h12 := @run_callFunc_extern Tryd.prog 127 _ ReflectliteValue.set Tryd.func127 (by kernel_rfl) (by kernel_rfl) (by kernel_rfl) (by kernel_rfl)
  have tO := typeOfE
  have mA := methodAssignableTo
  have a25 := assignableE
  have v25 := valueOfE
  have f6 := valueOfP
  have f7 := typeP
  have mK := methodKind
  have mE := methodElem
  have mI := methodImplements
  have k27 := kindP
  have k25 := kindE
  have e27 := elemTP
  have i25 := implementsE
  have n8 := isNilP ⟨w.heap.size, 0, none⟩ t ((w.alloc (.cells #[.pointer (some t)] 204)).alloc (.cells #[.pointer (some ⟨5, 204, none⟩), .pointer (some ⟨w.heap.size, 0, none⟩), .int .u64 150] 226)) (by simp)
  have hlt : 1 < w.heap.size := World.block_lt_of_cell? w _ hg
  have hg2 : ((w.alloc (.cells #[.pointer (some t)] 204)).alloc (.cells #[.pointer (some ⟨5, 204, none⟩), .pointer (some ⟨w.heap.size, 0, none⟩), .int .u64 150] 226)).cell? ⟨1, 0, none⟩ = some (.iface 256 (.agg #[.pointer (some ⟨5, 24, none⟩)])) := by
    rw [World.cell?_alloc_lt _ _ ⟨1, 0, none⟩ (by simp; omega), World.cell?_alloc_lt _ _ ⟨1, 0, none⟩ hlt]; exact hg
  have htl : t.block < w.heap.size := World.block_lt_of_cell? w _ ht0
  have el := elemVP ⟨w.heap.size, 0, none⟩ t (((w.alloc (.cells #[.pointer (some t)] 204)).alloc (.cells #[.pointer (some ⟨5, 204, none⟩), .pointer (some ⟨w.heap.size, 0, none⟩), .int .u64 150] 226)).alloc (.cells #[.pointer (some ⟨5, 204, none⟩), .pointer (some ⟨w.heap.size, 0, none⟩), .int .u64 150] 226)) (by rw [World.cell?_alloc_lt _ _ ⟨w.heap.size, 0, none⟩ (by simp; omega)]; simp)
  have st := setE t ⟨w.heap.size + 1 + 1 + 1, 0, none⟩ n old ((((w.alloc (.cells #[.pointer (some t)] 204)).alloc (.cells #[.pointer (some ⟨5, 204, none⟩), .pointer (some ⟨w.heap.size, 0, none⟩), .int .u64 150] 226)).alloc (.cells #[.pointer (some ⟨5, 204, none⟩), .pointer (some ⟨w.heap.size, 0, none⟩), .int .u64 150] 226)).alloc (.cells #[.int .i64 n] 35))
    (by rw [World.cell?_alloc_at _ _ _ _ (by simp)]; rfl)
    (by rw [World.cell?_alloc_lt _ _ t (by simp; omega), World.cell?_alloc_lt _ _ t (by simp; omega), World.cell?_alloc_lt _ _ t (by simp; omega), World.cell?_alloc_lt _ _ t htl]; exact ht0)
    (by rw [World.frozen?_alloc_old _ _ t (by simp; omega), World.frozen?_alloc_old _ _ t (by simp; omega), World.frozen?_alloc_old _ _ t (by simp; omega), World.frozen?_alloc_old _ _ t (Nat.ne_of_lt htl)]; exact hf0)
  go_enter Tryd.func88, Tryd.ntmps88
  go_wp2
  refine wp_loop_rounds 1 ?_
  rw [rounds_succ]
  go_wp2
  go_ret
  exact ⟨rfl, rfl⟩
theorem as_at (n : Int) (p t : Addr) (old : Value) (w : World) (hg : w.cell? ⟨1, 0, none⟩ = some (.iface 256 (.agg #[.pointer (some ⟨5, 24, none⟩)])))
    (hp : w.cell? p = some (.int .i64 n)) (ht0 : w.cell? t = some old) (hf0 : w.frozen? t = false) :
    Calls Tryd.prog 88 #[.iface 117 (.pointer (some p)), .iface 204 (.pointer (some t))] w fun ev w' => ev = .returned (.bool true) ∧
      w' = ((((w.alloc (.cells #[.pointer (some t)] 204)).alloc (.cells #[.pointer (some ⟨5, 204, none⟩), .pointer (some ⟨w.heap.size, 0, none⟩), .int .u64 150] 226)).alloc (.cells #[.pointer (some ⟨5, 204, none⟩), .pointer (some ⟨w.heap.size, 0, none⟩), .int .u64 150] 226)).alloc (.cells #[.int .i64 n] 35)).setCell t (.int .i64 n) := by
  have h6 := @run_callFunc_extern Tryd.prog 103 _ (fun args => ReflectliteValue.unpack (args.getD 0 (.tuple #[]))) Tryd.func103 (by kernel_rfl) (by kernel_rfl) (by kernel_rfl) (by kernel_rfl)
  have h7 := @run_callFunc_extern Tryd.prog 104 _ (ReflectliteValue.methodAny (ReflectliteValue.valueError "reflectlite.Value.Type" 0) (fun t _ _ _ => ReflectliteType.toType t)) Tryd.func104 (by kernel_rfl) (by kernel_rfl) (by kernel_rfl) (by kernel_rfl)
  have h8 := @run_callFunc_extern Tryd.prog 105 _ (ReflectliteValue.method (ReflectliteValue.valueError "reflectlite.Value.IsNil" 0) ReflectliteValue.isNil) Tryd.func105 (by kernel_rfl) (by kernel_rfl) (by kernel_rfl) (by kernel_rfl)
  have h27 := @run_callFunc_extern Tryd.prog 193 _ (ReflectliteType.abiMethod fun t => do pure (.int .u8 (← Rtype.kind t))) Tryd.func193 (by kernel_rfl) (by kernel_rfl) (by kernel_rfl) (by kernel_rfl)
  have h37 := @run_callFunc_extern Tryd.prog 207 _ (ReflectliteType.method ReflectliteType.elem) Tryd.func207 (by kernel_rfl) (by kernel_rfl) (by kernel_rfl) (by kernel_rfl)
  have h38 := @run_callFunc_extern Tryd.prog 208 _ (ReflectliteType.relation "Implements" ReflectliteType.implements_) Tryd.func208 (by kernel_rfl) (by kernel_rfl) (by kernel_rfl) (by kernel_rfl)
  have h10 := @run_callFunc_extern Tryd.prog 125 _ ReflectliteType.typeOf Tryd.func125 (by kernel_rfl) (by kernel_rfl) (by kernel_rfl) (by kernel_rfl)
  have h35 := @run_callFunc_extern Tryd.prog 205 _ (ReflectliteType.relation "AssignableTo" ReflectliteType.assignableTo) Tryd.func205 (by kernel_rfl) (by kernel_rfl) (by kernel_rfl) (by kernel_rfl)
  have h11 := @run_callFunc_extern Tryd.prog 126 _ (ReflectliteValue.method (ReflectliteValue.valueError "reflectlite.Value.Elem" 0) ReflectliteValue.elem) Tryd.func126 (by kernel_rfl) (by kernel_rfl) (by kernel_rfl) (by kernel_rfl)
  have h12 := @run_callFunc_extern Tryd.prog 127 _ ReflectliteValue.set Tryd.func127 (by kernel_rfl) (by kernel_rfl) (by kernel_rfl) (by kernel_rfl)
  have tO := typeOfE
  have tO' := typeOfAt
  have aAt := assignableAt
  have tA1 : ∀ (v : Value) (xT : TypeId) (w : World), (Instr.typeAssert (.iface 117 v) xT 261 true).run Tryd.prog w = .ok (.tuple #[.nilIface, .bool false]) w := fun v xT w => run_typeAssert_lacksB Tryd.underlying261 (by kernel_rfl) (by kernel_rfl) v xT w
  have tA2 : ∀ (v : Value) (xT : TypeId) (w : World), (Instr.typeAssert (.iface 117 v) xT 179 true).run Tryd.prog w = .ok (.tuple #[.iface 117 v, .bool true]) w := fun v xT w => run_typeAssert_hasB Tryd.underlying179 (by kernel_rfl) v xT w
  have nA : ∀ (a : Addr) (w : World), (nilAhead 436 117 (.pointer (some a)) "Unwrap").run Tryd.prog w = .ok (some false) w := fun a w => by kernel_rfl
  have mU : ∀ (a : Addr) (w : World), (Go.method 436 117 (.pointer (some a)) "Unwrap").run Tryd.prog w = .ok (198, .pointer (some a)) w := fun a w => by kernel_rfl
  have mA := methodAssignableTo
  have a25 := assignableE
  have v25 := valueOfE
  have f6 := valueOfP
  have f7 := typeP
  have mK := methodKind
  have mE := methodElem
  have mI := methodImplements
  have k27 := kindP
  have k25 := kindE
  have e27 := elemTP
  have i25 := implementsE
  have n8 := isNilP ⟨w.heap.size, 0, none⟩ t ((w.alloc (.cells #[.pointer (some t)] 204)).alloc (.cells #[.pointer (some ⟨5, 204, none⟩), .pointer (some ⟨w.heap.size, 0, none⟩), .int .u64 150] 226)) (by simp)
  have hlt : 1 < w.heap.size := World.block_lt_of_cell? w _ hg
  have hg2 : ((w.alloc (.cells #[.pointer (some t)] 204)).alloc (.cells #[.pointer (some ⟨5, 204, none⟩), .pointer (some ⟨w.heap.size, 0, none⟩), .int .u64 150] 226)).cell? ⟨1, 0, none⟩ = some (.iface 256 (.agg #[.pointer (some ⟨5, 24, none⟩)])) := by
    rw [World.cell?_alloc_lt _ _ ⟨1, 0, none⟩ (by simp; omega), World.cell?_alloc_lt _ _ ⟨1, 0, none⟩ hlt]; exact hg
  have hpl : p.block < w.heap.size := World.block_lt_of_cell? w _ hp
  have hp3 : (((w.alloc (.cells #[.pointer (some t)] 204)).alloc (.cells #[.pointer (some ⟨5, 204, none⟩), .pointer (some ⟨w.heap.size, 0, none⟩), .int .u64 150] 226)).alloc (.cells #[.pointer (some ⟨5, 204, none⟩), .pointer (some ⟨w.heap.size, 0, none⟩), .int .u64 150] 226)).cell? p = some (.int .i64 n) := by
    rw [World.cell?_alloc_lt _ _ p (by simp; omega), World.cell?_alloc_lt _ _ p (by simp; omega), World.cell?_alloc_lt _ _ p hpl]; exact hp
  have htl : t.block < w.heap.size := World.block_lt_of_cell? w _ ht0
  have el := elemVP ⟨w.heap.size, 0, none⟩ t (((w.alloc (.cells #[.pointer (some t)] 204)).alloc (.cells #[.pointer (some ⟨5, 204, none⟩), .pointer (some ⟨w.heap.size, 0, none⟩), .int .u64 150] 226)).alloc (.cells #[.pointer (some ⟨5, 204, none⟩), .pointer (some ⟨w.heap.size, 0, none⟩), .int .u64 150] 226)) (by rw [World.cell?_alloc_lt _ _ ⟨w.heap.size, 0, none⟩ (by simp; omega)]; simp)
  have st := setE t ⟨w.heap.size + 1 + 1 + 1, 0, none⟩ n old ((((w.alloc (.cells #[.pointer (some t)] 204)).alloc (.cells #[.pointer (some ⟨5, 204, none⟩), .pointer (some ⟨w.heap.size, 0, none⟩), .int .u64 150] 226)).alloc (.cells #[.pointer (some ⟨5, 204, none⟩), .pointer (some ⟨w.heap.size, 0, none⟩), .int .u64 150] 226)).alloc (.cells #[.int .i64 n] 35))
    (by rw [World.cell?_alloc_at _ _ _ _ (by simp)]; rfl)
    (by rw [World.cell?_alloc_lt _ _ t (by simp; omega), World.cell?_alloc_lt _ _ t (by simp; omega), World.cell?_alloc_lt _ _ t (by simp; omega), World.cell?_alloc_lt _ _ t htl]; exact ht0)
    (by rw [World.frozen?_alloc_old _ _ t (by simp; omega), World.frozen?_alloc_old _ _ t (by simp; omega), World.frozen?_alloc_old _ _ t (by simp; omega), World.frozen?_alloc_old _ _ t (Nat.ne_of_lt htl)]; exact hf0)
  go_enter Tryd.func88, Tryd.ntmps88
  go_wp2
  refine wp_loop_rounds 2 ?_
  rw [rounds_succ]
  go_wp2
  rw [rounds_succ]
  go_wp2
  go_ret
  exact ⟨rfl, rfl⟩
end Go.Proofs.YthbkklnahhdgcaaDoor.ErrB

namespace Go.Proofs.YthbkklnahhdgcaaDoor.ErrC
open Go Go.RowKit Go.Proofs.YthbkklnahhdgcaaDoor.Lib ErrB

/-- The one package-level variable that errors.As reads. -/
def EtIs (w : World) : Prop := w.cell? ⟨1, 0, none⟩ = some (.iface 256 (.agg #[.pointer (some ⟨5, 24, none⟩)]))

theorem tell_nil (w : World) : Calls Tryd.prog 68 #[.nilIface] w fun e w' => e = .returned (.int .i64 0) ∧ w' = w := by
  go_enter Tryd.func68, Tryd.ntmps68
  go_wp2
  go_ret
  exact ⟨rfl, rfl⟩

theorem tell_errno (n : Int) (w : World) (hg : EtIs w) :
    Calls Tryd.prog 68 #[.iface 35 (.int .i64 n)] w fun e w' => e = .returned (.int .i64 n) ∧ Below w.heap.size w w' := by
  have hlt : 1 < w.heap.size := World.block_lt_of_cell? w _ hg
  have hgA : EtIs (w.alloc (.cells #[.int .i64 0] 35)) := by
    unfold EtIs; rw [World.cell?_alloc_lt _ _ ⟨1, 0, none⟩ hlt]; exact hg
  go_enter Tryd.func68, Tryd.ntmps68
  go_wp2_with (go_at_call 88; refine (as_errno n _ (.int .i64 0) _ hgA (by simp) (by simp)).mono ?_; rintro e w' ⟨rfl, rfl⟩)
  go_ret
  refine ⟨?_, ?_⟩
  · simp
  · repeat (refine Below.alloc ?_ (by first | exact Nat.le_refl _ | (simp; done) | (simp; omega)) _)
    exact Below.refl _ _

theorem tell_at (n : Int) (p : Addr) (w : World) (hp : w.cell? p = some (.int .i64 n)) (hg : EtIs w) :
    Calls Tryd.prog 68 #[.iface 117 (.pointer (some p))] w fun e w' => e = .returned (.int .i64 n) ∧ Below w.heap.size w w' := by
  have hlt : 1 < w.heap.size := World.block_lt_of_cell? w _ hg
  have hpl : p.block < w.heap.size := World.block_lt_of_cell? w _ hp
  have hpA : (w.alloc (.cells #[.int .i64 0] 35)).cell? p = some (.int .i64 n) := by
    rw [World.cell?_alloc_lt _ _ p hpl]; exact hp
  have hgA : EtIs (w.alloc (.cells #[.int .i64 0] 35)) := by
    unfold EtIs; rw [World.cell?_alloc_lt _ _ ⟨1, 0, none⟩ hlt]; exact hg
  go_enter Tryd.func68, Tryd.ntmps68
  go_wp2_with (go_at_call 88; refine (as_at n p _ (.int .i64 0) _ hgA hpA (by simp) (by simp)).mono ?_; rintro e w' ⟨rfl, rfl⟩)
  go_ret
  refine ⟨?_, ?_⟩
  · simp
  · repeat (refine Below.alloc ?_ (by first | exact Nat.le_refl _ | (simp; done) | (simp; omega)) _)
    exact Below.refl _ _

/-! ### plain.Place -/
theorem place_nil (w : World) : Calls Tryd.prog 28 #[.nilIface] w fun e w' => e = .returned (.tuple #[.int .i64 0, .int .i64 (-1)]) ∧ w' = w := by
  go_enter Tryd.func28, Tryd.ntmps28
  go_wp2_with (go_at_call 68; refine (tell_nil _).mono ?_; rintro e w' ⟨rfl, rfl⟩)
  refine wp_loop_rounds 1 ?_
  rw [rounds_succ]
  go_wp2
  go_ret2
  exact ⟨rfl, rfl⟩

theorem place_errno (n : Int) (w : World) (hg : EtIs w) :
    Calls Tryd.prog 28 #[.iface 35 (.int .i64 n)] w fun e w' => e = .returned (.tuple #[.int .i64 n, .int .i64 (-1)]) ∧ Below w.heap.size w w' := by
  have tA1 : ∀ (v : Value) (w : World), (Instr.typeAssert (.iface 35 v) 24 117 true).run Tryd.prog w = .ok (.tuple #[.pointer none, .bool false]) w := fun v w => by kernel_rfl
  have tA2 : ∀ (v : Value) (xT : TypeId) (w : World), (Instr.typeAssert (.iface 35 v) xT 179 true).run Tryd.prog w = .ok (.tuple #[.nilIface, .bool false]) w := fun v xT w => run_typeAssert_lacksB Tryd.underlying179 (by kernel_rfl) (by kernel_rfl) v xT w
  go_enter Tryd.func28, Tryd.ntmps28
  go_wp2_with (go_at_call 68; refine (tell_errno n _ hg).mono ?_; rintro e w1 ⟨rfl, hb⟩)
  refine wp_loop_rounds 1 ?_
  rw [rounds_succ]
  go_wp2
  go_ret2
  exact ⟨rfl, hb⟩

theorem place_at (n k : Int) (pb po : Nat) (w : World) (hp : w.cell? ⟨pb, po, none⟩ = some (.int .i64 n)) (hq : w.cell? ⟨pb, po + 1, none⟩ = some (.int .i64 k)) (hg : EtIs w) :
    Calls Tryd.prog 28 #[.iface 117 (.pointer (some ⟨pb, po, none⟩))] w fun e w' => e = .returned (.tuple #[.int .i64 n, .int .i64 k]) ∧ Below w.heap.size w w' := by
  have tA1 : ∀ (v : Value) (w : World), (Instr.typeAssert (.iface 117 v) 24 117 true).run Tryd.prog w = .ok (.tuple #[v, .bool true]) w := fun v w => by kernel_rfl
  have hl : pb < w.heap.size := World.block_lt_of_cell? w _ hp
  go_enter Tryd.func28, Tryd.ntmps28
  go_wp2_with (go_at_call 68; refine (tell_at n _ _ hp hg).mono ?_; rintro e w1 ⟨rfl, hb⟩)
  have hq1 : w1.cell? ⟨pb, po + 1, none⟩ = some (.int .i64 k) := by rw [(bcell hb).1 _ _ hl]; exact hq
  refine wp_loop_rounds 1 ?_
  rw [rounds_succ]
  go_wp2
  go_quiet (fail)
  go_wp2
  go_ret2
  exact ⟨rfl, below_drewN hb _⟩

theorem EtIs.alloc {w : World} (h : EtIs w) (o : Obj) : EtIs (w.alloc o) := by
  unfold EtIs; rw [World.cell?_alloc_lt _ _ ⟨1, 0, none⟩ (World.block_lt_of_cell? w _ h)]; exact h
theorem EtIs.below {w w' : World} {B : Nat} (h : EtIs w) (hb : Below B w w') (hB : 1 < B) : EtIs w' := by
  unfold EtIs; rw [hb.cell hB]; exact h

/-! ### the laws' at and bare -/

theorem at_errno (n : Int) (fe fp : Int) (w : World) (hg : EtIs w):
    Calls Tryd.prog 19 #[.iface 35 (.int .i64 n), .agg #[.int .i64 fe, .int .i64 fp]] w fun e w' => e = .returned (.bool ((n == fe) && ((-1 : Int) == fp))) ∧ Below w.heap.size w w' := by
  rcases h : (n == fe) with _ | _
  all_goals
    go_enter Tryd.func19, Tryd.ntmps19
    go_wp2_with (go_at_call 28; refine (place_errno n _ (EtIs.alloc hg _)).mono ?_; rintro e w1 ⟨rfl, hb⟩; have hb' : Below w.heap.size w w1 := ((Below.refl _ _).alloc (Nat.le_refl _) _).trans (hb.mono (by simp)); have g0 : w1.cell? ⟨w.heap.size, 0, none⟩ = some (.int .i64 fe) := (by rw [hb.cell (by simp)]; simp); have g1 : w1.cell? ⟨w.heap.size, 1, none⟩ = some (.int .i64 fp) := (by rw [hb.cell (by simp)]; simp))
    go_wp2
    go_ret
    exact ⟨by simp, hb'⟩

theorem at_at (n k : Int) (pb po : Nat) (fe fp : Int) (w : World) (hp : w.cell? ⟨pb, po, none⟩ = some (.int .i64 n)) (hq : w.cell? ⟨pb, po + 1, none⟩ = some (.int .i64 k)) (hg : EtIs w):
    Calls Tryd.prog 19 #[.iface 117 (.pointer (some ⟨pb, po, none⟩)), .agg #[.int .i64 fe, .int .i64 fp]] w fun e w' => e = .returned (.bool ((n == fe) && (k == fp))) ∧ Below w.heap.size w w' := by
  have hl : pb < w.heap.size := World.block_lt_of_cell? w _ hp
  have hpA : (w.alloc (.cells #[.int .i64 fe, .int .i64 fp] 48)).cell? ⟨pb, po, none⟩ = some (.int .i64 n) := by rw [World.cell?_alloc_lt _ _ ⟨pb, po, none⟩ hl]; exact hp
  have hqA : (w.alloc (.cells #[.int .i64 fe, .int .i64 fp] 48)).cell? ⟨pb, po + 1, none⟩ = some (.int .i64 k) := by rw [World.cell?_alloc_lt _ _ ⟨pb, po + 1, none⟩ hl]; exact hq
  rcases h : (n == fe) with _ | _
  all_goals
    go_enter Tryd.func19, Tryd.ntmps19
    go_wp2_with (go_at_call 28; refine (place_at n k pb po _ hpA hqA (EtIs.alloc hg _)).mono ?_; rintro e w1 ⟨rfl, hb⟩; have hb' : Below w.heap.size w w1 := ((Below.refl _ _).alloc (Nat.le_refl _) _).trans (hb.mono (by simp)); have g0 : w1.cell? ⟨w.heap.size, 0, none⟩ = some (.int .i64 fe) := (by rw [hb.cell (by simp)]; simp); have g1 : w1.cell? ⟨w.heap.size, 1, none⟩ = some (.int .i64 fp) := (by rw [hb.cell (by simp)]; simp))
    go_wp2
    go_ret
    exact ⟨by simp, hb'⟩

theorem at_nil  (fe fp : Int) (w : World) :
    Calls Tryd.prog 19 #[.nilIface, .agg #[.int .i64 fe, .int .i64 fp]] w fun e w' => e = .returned (.bool (((0 : Int) == fe) && ((-1 : Int) == fp))) ∧ Below w.heap.size w w' := by
  rcases h : ((0 : Int) == fe) with _ | _
  all_goals
    go_enter Tryd.func19, Tryd.ntmps19
    go_wp2_with (go_at_call 28; refine (place_nil _).mono ?_; rintro e w1 ⟨rfl, rfl⟩)
    go_wp2
    go_ret
    exact ⟨by simp, (Below.refl _ _).alloc (Nat.le_refl _) _⟩

theorem bareF (n : Int) (w : World) : Calls Tryd.prog 24 #[.int .i64 n] w fun e w' => e = .returned (.agg #[.int .i64 n, .int .i64 (-1)]) ∧ Below w.heap.size w w' := by
  go_enter Tryd.func24, Tryd.ntmps24
  go_wp2
  exact bodyPost_ret (v := .agg #[.int .i64 n, .int .i64 (-1)]) (by simp [results, Tryd.results24, go_sem]) rfl ⟨rfl, (Below.refl _ _).alloc (Nat.le_refl _) _⟩

theorem bare_nil  (fe : Int) (w : World) :
    Calls Tryd.prog 14 #[.nilIface, .int .i64 fe] w fun e w' => e = .returned (.bool ((0 : Int) == fe)) ∧ Below w.heap.size w w' := by
  go_enter Tryd.func14, Tryd.ntmps14
  go_wp2_with (first | (go_at_call 24; refine (bareF _ _).mono ?_; rintro e w1 ⟨rfl, hb⟩) | (go_at_call 19; refine (at_nil _ _ _).mono ?_; rintro e w2 ⟨rfl, hb2⟩))
  go_ret
  exact ⟨rfl, hb.trans (hb2.mono hb.size)⟩

theorem bare_errno (n : Int) (fe : Int) (w : World) (hg : EtIs w):
    Calls Tryd.prog 14 #[.iface 35 (.int .i64 n), .int .i64 fe] w fun e w' => e = .returned (.bool (n == fe)) ∧ Below w.heap.size w w' := by
  go_enter Tryd.func14, Tryd.ntmps14
  go_wp2_with (first | (go_at_call 24; refine (bareF _ _).mono ?_; rintro e w1 ⟨rfl, hb⟩) | (go_at_call 19; refine (at_errno n _ _ _ (hg.below hb (World.block_lt_of_cell? w _ hg))).mono ?_; rintro e w2 ⟨rfl, hb2⟩))
  go_ret
  exact ⟨rfl, hb.trans (hb2.mono hb.size)⟩

theorem bare_at (n k : Int) (pb po : Nat) (fe : Int) (w : World) (hp : w.cell? ⟨pb, po, none⟩ = some (.int .i64 n)) (hq : w.cell? ⟨pb, po + 1, none⟩ = some (.int .i64 k)) (hg : EtIs w):
    Calls Tryd.prog 14 #[.iface 117 (.pointer (some ⟨pb, po, none⟩)), .int .i64 fe] w fun e w' => e = .returned (.bool ((n == fe) && (k == -1))) ∧ Below w.heap.size w w' := by
  have hl : pb < w.heap.size := World.block_lt_of_cell? w _ hp
  have hg0 : 1 < w.heap.size := World.block_lt_of_cell? w _ hg
  go_enter Tryd.func14, Tryd.ntmps14
  go_wp2_with (first | (go_at_call 24; refine (bareF _ _).mono ?_; rintro e w1 ⟨rfl, hb⟩; have hp1 : w1.cell? ⟨pb, po, none⟩ = some (.int .i64 n) := (by rw [hb.cell hl]; exact hp); have hq1 : w1.cell? ⟨pb, po + 1, none⟩ = some (.int .i64 k) := (by rw [hb.cell hl]; exact hq)) | (go_at_call 19; refine (at_at n k pb po _ _ _ hp1 hq1 (hg.below hb hg0)).mono ?_; rintro e w2 ⟨rfl, hb2⟩))
  go_ret
  exact ⟨rfl, hb.trans (hb2.mono hb.size)⟩
end Go.Proofs.YthbkklnahhdgcaaDoor.ErrC

namespace Go.Proofs.YthbkklnahhdgcaaDoor.ErrD
open Go Go.Proofs Go.RowKit Lib ErrC

/-- An error's value: nothing, an Errno, or an At of an Errno at a place. -/
def ErrIs (w : World) (v : Value) (e p : Int) : Prop :=
  (e = 0 ∧ p = -1 ∧ v = .nilIface) ∨ (e ≠ 0 ∧ p = -1 ∧ v = .iface 35 (.int .i64 e)) ∨ ∃ b, v = .iface 117 (.pointer (some ⟨b, 0, none⟩)) ∧ w.heap[b]? = some (.cells #[.int .i64 e, .int .i64 p] 118 (0, 0)) ∧ e ≠ 0

theorem ErrIs.below {w w' : World} {v : Value} {e p : Int} {B : Nat} (h : ErrIs w v e p) (hb : Below B w w') (hB : w.heap.size ≤ B) : ErrIs w' v e p := by
  rcases h with h | h | ⟨b, h1, h2, h3⟩
  · exact Or.inl h
  · exact Or.inr (Or.inl h)
  · refine Or.inr (Or.inr ⟨b, h1, ?_, h3⟩)
    rw [hb.block b (Nat.lt_of_lt_of_le (Array.getElem?_eq_some_iff.mp h2).1 hB)]
    exact h2

theorem at_is {w : World} {v : Value} {e p : Int} (h : ErrIs w v e p) (hg : EtIs w) :
    Calls Tryd.prog 19 #[v, .agg #[.int .i64 e, .int .i64 p]] w fun r w' => r = .returned (.bool true) ∧ Below w.heap.size w w' := by
  rcases h with ⟨rfl, rfl, rfl⟩ | ⟨_, rfl, rfl⟩ | ⟨b, rfl, hb, _⟩
  · refine (at_nil 0 (-1) w).mono ?_
    rintro r w' ⟨rfl, h⟩
    exact ⟨rfl, h⟩
  · refine (at_errno e e (-1) w hg).mono ?_
    rintro r w' ⟨rfl, h⟩
    exact ⟨by simp, h⟩
  · refine (at_at e p b 0 e p w (Lib.cell_of_block hb (by simp)) (Lib.cell_of_block hb (by simp)) hg).mono ?_
    rintro r w' ⟨rfl, h⟩
    exact ⟨by simp, h⟩
end Go.Proofs.YthbkklnahhdgcaaDoor.ErrD

namespace Go.Proofs.YthbkklnahhdgcaaDoor.PlZ
open Go Go.Proofs Go.RowKit Go.Maps Go.Proofs.YthbkklnahhdgcaaDoor.Lib HeapR ErrC ChA ChT ChCa ChCc ChL ChN ChO ChZ PlC

/-- A thing, and what the zoo knows of it; b: its block. -/
structure Th where
  b : Nat
  kind : Int
  tag : Int
  id : Int
  old : Bool
  is : List Int
  iv : Value
  here : Bool
  known : Bool
  wv : Vl
def Th.ptr (t : Th) : Value := .pointer (some ⟨t.b, 0, none⟩)
def Th.block (t : Th) : Array Value := #[.int .i64 t.kind, .int .i64 t.tag, .int .i64 t.id, .bool t.old, t.iv]
def vlVals (v : Vl) : List Value := [.int .i64 v.k, .int .i64 v.n, .string v.s]
def wVals (T : List Th) : List Value := T.flatMap fun t => vlVals t.wv
/-- The zoo's numbers. -/
structure Zn where
  most : Int
  room : Int
  top : Int
  old : Int
  minors : Int
  majors : Int
def zblock (hb : Nat) (tv wv ev kv : Value) (Z : Zn) : Array Value :=
  #[.pointer (some ⟨hb, 0, none⟩), tv, wv, ev, kv, .int .i64 Z.most, .int .i64 Z.room, .int .i64 Z.top, .int .i64 Z.old, .int .i64 Z.minors, .int .i64 Z.majors]
/-- Five values that lie in the zoo's block, its own, and the heap's. -/
structure Zv where
  zb : Nat
  hb : Nat
  nb : Nat
  mb : Nat
  ov : Value
  rv : Value
  tv : Value
  wv : Value
  ev : Value
  kv : Value
def Zv.heap (V : Zv) (k : Nat) : Prop := Owns V.hb V.nb V.mb V.ov V.rv k
/-- The zoo in memory. O tells of each block whose it is: 0 the heap's, 1 the zoo's, 2 to 5 its slices', 2 i + 6 thing i's, 2 i + 7 its fields'. -/
structure ZR (w : World) (O : Nat → Nat) (B : Nat) (V : Zv) (H : HS) (T : List Th) (Z : Zn) : Prop where
  blk : w.heap[V.zb]? = some (.cells (zblock V.hb V.tv V.wv V.ev V.kv Z) 80 (0, 0))
  hr : HR w V.hb V.nb V.mb V.ov V.rv B H
  things : w.ownsRow B 184 1 V.tv T.length (T.map Th.ptr)
  wher : w.ownsRow B 28 3 V.wv T.length (wVals T)
  here : w.ownsRow B 4 1 V.ev T.length (T.map fun t => .bool t.here)
  known : w.ownsRow B 4 1 V.kv T.length (T.map fun t => .bool t.known)
  thing : ∀ t ∈ T, w.heap[t.b]? = some (.cells t.block 186 (0, 0)) ∧ w.ownsRow B 3 1 t.iv t.is.length (t.is.map (Value.int .i64))
  o0 : ∀ k, V.heap k → O k = 0
  o1 : O V.zb = 1
  o2 : ∀ k, V.tv.ownBlock = some k → O k = 2
  o3 : ∀ k, V.wv.ownBlock = some k → O k = 3
  o4 : ∀ k, V.ev.ownBlock = some k → O k = 4
  o5 : ∀ k, V.kv.ownBlock = some k → O k = 5
  ot : ∀ i t, T[i]? = some t → O t.b = 2 * i + 6 ∧ B ≤ t.b ∧ ∀ k, t.iv.ownBlock = some k → O k = 2 * i + 7
  low : B ≤ V.zb
  et : EtIs w
  el : 1 < B

variable {w w' : World} {O : Nat → Nat} {B : Nat} {V : Zv} {H : HS} {T : List Th} {Z : Zn}
theorem ZR.zlt (h : ZR w O B V H T Z) : V.zb < w.heap.size := lt_of_block h.blk
theorem ZR.tlt (h : ZR w O B V H T Z) {t : Th} (ht : t ∈ T) : t.b < w.heap.size := lt_of_block (h.thing t ht).1
/-- Nothing of it turned. -/
theorem ZR.same (h : ZR w O B V H T Z) (hs : ∀ k, B ≤ k → k < w.heap.size → w'.heap[k]? = w.heap[k]?) (he : w'.heap[1]? = w.heap[1]?) : ZR w' O B V H T Z :=
  { h with
    blk := (hs _ h.low h.zlt).trans h.blk
    hr := h.hr.same fun k hk => hs k (h.hr.ge hk) (h.hr.lt hk)
    things := ownsRow_same h.things fun k hk => hs k (own_lt h.things hk).1 (own_lt h.things hk).2
    wher := ownsRow_same h.wher fun k hk => hs k (own_lt h.wher hk).1 (own_lt h.wher hk).2
    here := ownsRow_same h.here fun k hk => hs k (own_lt h.here hk).1 (own_lt h.here hk).2
    known := ownsRow_same h.known fun k hk => hs k (own_lt h.known hk).1 (own_lt h.known hk).2
    thing := fun t ht => by
      obtain ⟨i, hi⟩ := List.getElem?_of_mem ht
      exact ⟨(hs _ (h.ot i t hi).2.1 (h.tlt ht)).trans (h.thing t ht).1, ownsRow_same (h.thing t ht).2 fun k hk => hs k (own_lt (h.thing t ht).2 hk).1 (own_lt (h.thing t ht).2 hk).2⟩
    et := (World.cell?_of_block (a := ⟨1, 0, none⟩) he).trans h.et }
theorem ZR.etlt (h : ZR w O B V H T Z) : 1 < w.heap.size := World.block_lt_of_cell? w _ h.et
theorem ZR.below (h : ZR w O B V H T Z) (hb : Below w.heap.size w w') : ZR w' O B V H T Z :=
  h.same (fun k _ hk => hb.block k hk) (hb.block _ h.etlt)
theorem ZR.drewN (h : ZR w O B V H T Z) (n : Nat) : ZR (w.drewN n) O B V H T Z := h.same (fun _ _ _ => rfl) rfl
theorem ZR.drew (h : ZR w O B V H T Z) : ZR w.drew O B V H T Z := h.same (fun _ _ _ => rfl) rfl

/-! ### its cells -/
theorem ZR.cz (h : ZR w O B V H T Z) {i : Nat} {v : Value} (hv : (zblock V.hb V.tv V.wv V.ev V.kv Z)[i]? = some v) : w.cell? ⟨V.zb, i, none⟩ = some v := cell_of_block h.blk hv
theorem ZR.fz (h : ZR w O B V H T Z) (i : Nat) : w.frozen? ⟨V.zb, i, none⟩ = false := frozen_of_block h.blk
theorem wVals_length (T : List Th) : (wVals T).length = T.length * 3 := by
  unfold wVals
  induction T with
  | nil => rfl
  | cons t T ih =>
    rw [List.flatMap_cons, List.length_append, ih]
    simp [vlVals]
    omega
theorem wVals_get {T : List Th} {i j : Nat} {t : Th} (h : T[i]? = some t) (hj : j < 3) : (wVals T)[i * 3 + j]? = (vlVals t.wv)[j]? := by
  induction T generalizing i with
  | nil => simp at h
  | cons a T ih =>
    unfold wVals at ih ⊢
    rw [List.flatMap_cons]
    cases i with
    | zero =>
      have e : a = t := by simpa using h
      subst e
      rw [List.getElem?_append_left (by simp [vlVals]; omega)]
      simp
    | succ i =>
      rw [List.getElem?_append_right (by simp [vlVals]; omega)]
      have e : (i + 1) * 3 + j - (vlVals a.wv).length = i * 3 + j := by
        simp [vlVals]
        omega
      rw [e]
      exact ih (by simpa using h)
/-- The slices, written out. -/
theorem row_form {w : World} {base e size n : Nat} {v : Value} {xs : List Value} (h : w.ownsRow base e size v n xs) : ∃ oa c, v = .slice oa n c := by
  rcases h.2 with ⟨h1, h2⟩ | ⟨g, cap, cur, h1, _⟩
  · exact ⟨none, 0, by rw [h1, h2]⟩
  · exact ⟨_, _, h1⟩

/-! ### what it says of the heap -/
def refV (x : Ob) : Vl := ⟨4, (x.addr : Int), ByteArray.empty⟩
/-- A field as the zoo has it, and as the heap has it. -/
def FM (T : List Th) (loc : Nat → Ob) (x : Int) (v : Vl) : Prop := (x = 0 ∧ v = nilV) ∨ (x < 0 ∧ v.k = 2) ∨ ∃ (j : Nat) (u : Th), x = (j : Int) + 1 ∧ T[j]? = some u ∧ u.here = true ∧ v = refV (loc j)
structure Is (T : List Th) (loc : Nat → Ob) (t : Th) (o : Ob) : Prop where
  kind : o.kind = t.kind
  tag : o.tag = t.tag
  id : o.id = t.id
  len : o.fs.length = t.is.length
  fld : ∀ (j : Nat) (x : Int) (v : Vl), t.is[j]? = some x → o.fs[j]? = some v → FM T loc x v
def ided (t : Th) : Bool := decide (t.kind ≠ 4)
structure ZI (H : HS) (nu ol : List Ob) (T : List Th) (Z : Zn) (loc : Nat → Ob) : Prop where
  hi : HI H nu ol
  obj : ∀ i t, T[i]? = some t → t.here = true → loc i ∈ nu ++ ol ∧ (t.old = true ↔ loc i ∈ ol) ∧ Is T loc t (loc i)
  inj : ∀ i j t u, T[i]? = some t → T[j]? = some u → t.here = true → u.here = true → loc i = loc j → i = j
  all : ∀ o ∈ nu ++ ol, ∃ i t, T[i]? = some t ∧ t.here = true ∧ loc i = o
  known : ∀ i t, T[i]? = some t → t.known = true → t.here = true ∧ t.wv = refV (loc i)
  oldh : ∀ t ∈ T, t.old = true → t.here = true
  ids : ∀ i t, T[i]? = some t → t.id = if t.kind = 4 then 0 else ((T.take i).countP ided : Int) + 1
  next : H.next = T.countP ided
  kinds : ∀ t ∈ T, 1 ≤ t.kind ∧ t.kind ≤ 4
  len : ∀ t ∈ T, t.is.length ≤ 1000
  most : Z.most = (H.most : Int)
  room : Z.room = (H.room : Int)
  top : Z.top = (total nu : Int)
  old : Z.old = (total ol : Int)
  minors : Z.minors = (H.minors : Int)
  majors : Z.majors = (H.majors : Int)
end Go.Proofs.YthbkklnahhdgcaaDoor.PlZ

namespace Go.Proofs.YthbkklnahhdgcaaDoor.PlL
open Go Go.Proofs Go.RowKit Go.Maps Go.Proofs.YthbkklnahhdgcaaDoor.Lib PlZ

variable {T : List Th}
/-- How many of the first n are not in it. -/
def uns (n : Nat) (s : List Int) : Nat := (List.range n).countP fun (a : Nat) => decide (((a : Nat) : Int) ∉ s)
theorem countP_le {α : Type} {p q : α → Bool} (l : List α) (h : ∀ x ∈ l, p x = true → q x = true) : l.countP p ≤ l.countP q := List.countP_mono_left h
theorem countP_lt {α : Type} {p q : α → Bool} (l : List α) (h : ∀ x ∈ l, p x = true → q x = true) {y : α} (hy : y ∈ l) (h1 : q y = true) (h2 : p y = false) : l.countP p < l.countP q := by
  induction l with
  | nil => cases hy
  | cons x l ih =>
    rw [List.countP_cons, List.countP_cons]
    have hx := h x (List.mem_cons_self ..)
    rcases List.mem_cons.mp hy with e | hy
    · subst e
      have h3 := countP_le l (fun z hz => h z (List.mem_cons_of_mem _ hz))
      rw [h1, h2]
      simp
      omega
    · have h3 := ih (fun z hz => h z (List.mem_cons_of_mem _ hz)) hy
      cases hp : p x with
      | true =>
        rw [hx hp]
        simp
        omega
      | false =>
        cases q x <;> simp <;> omega
theorem uns_le {n : Nat} {s t : List Int} (h : ∀ i ∈ s, i ∈ t) : uns n t ≤ uns n s := countP_le _ fun x _ hx => by
  simp only [decide_eq_true_eq] at hx ⊢
  exact fun hs => hx (h _ hs)
theorem uns_lt {n a : Nat} {s : List Int} (ha : a < n) (hs : (a : Int) ∉ s) : uns n (s ++ [(a : Int)]) < uns n s := countP_lt _ (fun x _ hx => by
  simp only [decide_eq_true_eq] at hx ⊢
  exact fun hs => hx (List.mem_append.mpr (Or.inl hs))) (List.mem_range.mpr ha) (by simpa using hs) (by simp)
theorem uns_nil (n : Nat) : uns n [] = n := by
  unfold uns
  rw [List.countP_eq_length.mpr (by simp)]
  simp

/-- What was seen, and what of it comes by leading. -/
structure Led (T : List Th) (xs : List Int) (s s' : List Int) : Prop where
  mono : ∀ a ∈ s, a ∈ s'
  root : ∀ x ∈ xs, 1 ≤ x → x - 1 ∈ s'
  shut : ∀ a ∈ s', a ∉ s → ∀ t, T[a.toNat]? = some t → ∀ y ∈ t.is, 1 ≤ y → y - 1 ∈ s'
  least : ∀ P : Int → Prop, (∀ a, P a → ∀ t, T[a.toNat]? = some t → ∀ y ∈ t.is, 1 ≤ y → P (y - 1)) → (∀ x ∈ xs, 1 ≤ x → P (x - 1)) → ∀ a ∈ s', a ∉ s → P a
  room : s.length + uns T.length s ≤ T.length → s'.length + uns T.length s' ≤ T.length
theorem Led.nil (T : List Th) (s : List Int) : Led T [] s s :=
  ⟨fun _ h => h, fun _ h => by simp at h, fun a h1 h2 => absurd h1 h2, fun _ _ _ a h1 h2 => absurd h1 h2, fun h => h⟩
theorem Led.snoc {xs : List Int} {y : Int} {s s1 s2 : List Int} (h1 : Led T xs s s1) (h2 : Led T [y] s1 s2) : Led T (xs ++ [y]) s s2 := {
  mono := fun a h => h2.mono a (h1.mono a h)
  root := fun x hx h => by
    rcases List.mem_append.mp hx with hx | hx
    · exact h2.mono _ (h1.root x hx h)
    · exact h2.root x hx h
  shut := fun a ha hn t ht z hz h => by
    by_cases h3 : a ∈ s1
    · exact h2.mono _ (h1.shut a h3 hn t ht z hz h)
    · exact h2.shut a ha h3 t ht z hz h
  least := fun P hP hx a ha hn => by
    by_cases h3 : a ∈ s1
    · exact h1.least P hP (fun x hx' => hx x (List.mem_append.mpr (Or.inl hx'))) a h3 hn
    · exact h2.least P hP (fun x hx' => hx x (List.mem_append.mpr (Or.inr hx'))) a ha h3
  room := fun h => h2.room (h1.room h) }
/-- What is no thing, or was seen, leads to nothing new. -/
theorem Led.stay {x : Int} {s : List Int} (h : 1 ≤ x → x - 1 ∈ s) : Led T [x] s s :=
  ⟨fun _ h => h, fun y hy hx => by
    rw [List.mem_singleton.mp hy] at hx ⊢
    exact h hx, fun a h1 h2 => absurd h1 h2, fun _ _ _ a h1 h2 => absurd h1 h2, fun h => h⟩
/-- A thing that was not seen. -/
theorem Led.node {a : Nat} {t : Th} {s s' : List Int} (ht : T[a]? = some t) (hs : (a : Int) ∉ s) (h : Led T t.is (s ++ [(a : Int)]) s') : Led T [(a : Int) + 1] s s' where
  mono := fun b hb => h.mono b (List.mem_append.mpr (Or.inl hb))
  root := fun x hx _ => by
    rw [List.mem_singleton.mp hx, Int.add_sub_cancel]
    exact h.mono _ (List.mem_append.mpr (Or.inr (List.mem_singleton.mpr rfl)))
  shut := fun b hb hn u hu z hz h1 => by
    by_cases e : b = (a : Int)
    · subst e
      rw [Int.toNat_natCast, ht] at hu
      cases hu
      exact h.root z hz h1
    · exact h.shut b hb (by simpa using ⟨hn, e⟩) u hu z hz h1
  least := fun P hP hx b hb hn => by
    have h0 : P (a : Int) := by
      have := hx ((a : Int) + 1) (List.mem_singleton.mpr rfl) (by omega)
      rwa [Int.add_sub_cancel] at this
    by_cases e : b = (a : Int)
    · exact e ▸ h0
    · exact h.least P hP (fun z hz h1 => hP (a : Int) h0 t (by rw [Int.toNat_natCast]; exact ht) z hz h1) b hb (by simpa using ⟨hn, e⟩)
  room := fun h0 => h.room (by
    have h1 := uns_lt (List.getElem?_eq_some_iff.1 ht).1 hs
    rw [List.length_append]
    simp only [List.length_cons, List.length_nil]
    omega)
theorem Led.uns {xs s s' : List Int} (h : Led T xs s s') (n : Nat) : PlL.uns n s' ≤ PlL.uns n s := uns_le h.mono

/-- A number that leads to a thing that is there, or to none. -/
def Fit (T : List Th) (x : Int) : Prop := x ≤ 0 ∨ ∃ (a : Nat) (t : Th), x = (a : Int) + 1 ∧ T[a]? = some t ∧ t.here = true
def Shut (T : List Th) : Prop := ∀ t ∈ T, t.here = true → ∀ x ∈ t.is, Fit T x
end Go.Proofs.YthbkklnahhdgcaaDoor.PlL
