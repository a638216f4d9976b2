/- errors.As at a line's fault that cannot be read (run.bad): a hit, and a number of api that is none. -/
import Derived.Test.YtdfjbnfdknpahaaGreatDoorMRunAnswers19
import Derived.Test.YtdfjbnfdknpahaaGreatDoorMRunAnswers2
import Derived.Test.YtdfjbnfdknpahaaGreatDoorMRunAnswers22
import Derived.Test.YtdfjbnfdknpahaaGreatDoorMRunAnswers1
import Derived.Test.YtdfjbnfdknpahaaGreatDoorMRunAnswers5
import Derived.Test.YtdfjbnfdknpahaaGreatDoorMRunAnswers13
import Derived.Test.YtdfjbnfdknpahaaGreatDoorMRunAnswers7
import Derived.Deep.DeepCutAuto
import Derived.Deep.CutBlock
import Derived.Lib.Builder
import Derived.Lib.AppendStr
import Derived.Lib.UnsafeStr
import Derived.Laws.Externs
import Derived.Shelf.RegionOpenPlain
namespace Go.Proofs.YtdfjbnfdknpahaaGreatDoor
open Go.RowKit Go.Extern.Stop Go.Stop Go.Extern
set_option linter.unusedVariables false
namespace AsB
abbrev Handle := @As.Handle
theorem valueOfT (t : Addr) (w : World) : (ReflectliteValue.unpack (.iface 106 (.pointer (some t)))).run Tryz.prog w
    = .ok (.agg #[.pointer (some ⟨10, 106, none⟩), .pointer (some ⟨w.heap.size, 0, none⟩), .int .u64 150]) (w.alloc (.cells #[.pointer (some t)] 106)) := by kernel_rfl
theorem typeT (a : Addr) (w : World) : (ReflectliteValue.methodAny (ReflectliteValue.valueError "reflectlite.Value.Type" 0) (fun t _ _ _ => ReflectliteType.toType t) #[.agg #[.pointer (some ⟨10, 106, none⟩), .pointer (some a), .int .u64 150]]).run Tryz.prog w
    = .ok (.iface 175 (.agg #[.pointer (some ⟨10, 106, none⟩)])) w := by kernel_rfl
theorem methodKind (h : Value) (w : World) : (Go.method 390 175 (.agg #[h]) "Kind").run Tryz.prog w = .ok (183, h) w := by kernel_rfl
theorem kindT (w : World) : ((ReflectliteType.abiMethod fun t => (fun a : Nat => Value.int IntKind.u8 (a : Int)) <$> Rtype.kind t) #[.pointer (some ⟨10, 106, none⟩)]).run Tryz.prog w = .ok (.int .u8 22) w := by kernel_rfl
theorem kindE (w : World) : ((ReflectliteType.abiMethod fun t => (fun a : Nat => Value.int IntKind.u8 (a : Int)) <$> Rtype.kind t) #[.pointer (some ⟨10, 104, none⟩)]).run Tryz.prog w = .ok (.int .u8 25) w := by kernel_rfl
theorem rlm (z : Sem Value) (f : TypeId → Addr → Nat → Nat → Sem Value) (v : Value) :
    ReflectliteValue.method z f #[v] = (do match ← ReflectliteValue.parts v with | none => z | some (t, a, fl) => f t a fl (fl % 32)) := rfl
theorem partsT (a : Addr) (w : World) : (ReflectliteValue.parts (.agg #[.pointer (some ⟨10, 106, none⟩), .pointer (some a), .int .u64 150])).run Tryz.prog w = .ok (some (106, a, 150)) w := by kernel_rfl
theorem isNilT (a p : Addr) (W : World) (ha : W.cell? a = some (.pointer (some p))) :
    (ReflectliteValue.method (ReflectliteValue.valueError "reflectlite.Value.IsNil" 0) ReflectliteValue.isNil #[.agg #[.pointer (some ⟨10, 106, none⟩), .pointer (some a), .int .u64 150]]).run Tryz.prog W = .ok (.bool false) W := by
  rw [rlm]
  simp only [Sem.run_bind, partsT, Result.andThen]
  simp [ReflectliteValue.isNil, loadVar, isAgg, underlying, Tryz.underlying106, ha, Result.andThen]
theorem methodElem (h : Value) (w : World) : (Go.method 390 175 (.agg #[h]) "Elem").run Tryz.prog w = .ok (194, .agg #[h]) w := by kernel_rfl
theorem methodImplements (h : Value) (w : World) : (Go.method 390 175 (.agg #[h]) "Implements").run Tryz.prog w = .ok (195, .agg #[h]) w := by kernel_rfl
theorem methodAssignableTo (h : Value) (w : World) : (Go.method 390 175 (.agg #[h]) "AssignableTo").run Tryz.prog w = .ok (192, .agg #[h]) w := by kernel_rfl
theorem elemT (w : World) : (ReflectliteType.method ReflectliteType.elem #[.agg #[.pointer (some ⟨10, 106, none⟩)]]).run Tryz.prog w = .ok (.iface 175 (.agg #[.pointer (some ⟨10, 104, none⟩)])) w := by kernel_rfl
theorem implementsE (w : World) : (ReflectliteType.relation "Implements" ReflectliteType.implements_ #[.agg #[.pointer (some ⟨10, 104, none⟩)], .iface 175 (.agg #[.pointer (some ⟨10, 34, none⟩)])]).run Tryz.prog w = .ok (.bool true) w := by kernel_rfl
theorem typeOfE (v : Value) (w : World) : (ReflectliteType.typeOf #[.iface 104 v]).run Tryz.prog w = .ok (.iface 175 (.agg #[.pointer (some ⟨10, 104, none⟩)])) w := by kernel_rfl
theorem assignableE (w : World) : (ReflectliteType.relation "AssignableTo" ReflectliteType.assignableTo #[.agg #[.pointer (some ⟨10, 104, none⟩)], .iface 175 (.agg #[.pointer (some ⟨10, 104, none⟩)])]).run Tryz.prog w = .ok (.bool true) w := by kernel_rfl
theorem valueOfE (w : World) : (ReflectliteValue.unpack (.iface 104 (.agg #[.iface 90 (.int .i64 2)]))).run Tryz.prog w
    = .ok (.agg #[.pointer (some ⟨10, 104, none⟩), .pointer (some ⟨w.heap.size, 0, none⟩), .int .u64 153]) (w.alloc (.cells #[.iface 90 (.int .i64 2)] 104)) := by kernel_rfl
theorem elemOfT (w : World) : (Rtype.elem? 106).run Tryz.prog w = .ok (some 104) w := by kernel_rfl
theorem mkE (p : Addr) (w : World) : (ReflectliteValue.mk 104 p ReflectliteValue.flagAddr).run Tryz.prog w = .ok (.agg #[.pointer (some ⟨10, 104, none⟩), .pointer (some p), .int .u64 409]) w := by kernel_rfl
theorem elemVT (a p : Addr) (W : World) (ha : W.cell? a = some (.pointer (some p))) :
    (ReflectliteValue.method (ReflectliteValue.valueError "reflectlite.Value.Elem" 0) ReflectliteValue.elem #[.agg #[.pointer (some ⟨10, 106, none⟩), .pointer (some a), .int .u64 150]]).run Tryz.prog W
      = .ok (.agg #[.pointer (some ⟨10, 104, none⟩), .pointer (some p), .int .u64 409]) W := by
  rw [rlm]
  simp only [Sem.run_bind, partsT, Result.andThen]
  simp [ReflectliteValue.elem, loadVar, isAgg, underlying, Tryz.underlying106, ha, Result.andThen, elemOfT, mkE]
theorem rls (v x : Value) : ReflectliteValue.set #[v, x] = (do
    let (some (dst, a, fl), some (src, b, _)) := (← ReflectliteValue.parts v, ← ReflectliteValue.parts x)
      | unsupported (.noEntry "extern/(internal/reflectlite.Value).Set.zeroValue")
    if fl / ReflectliteValue.flagAddr % 2 == 0 then unsupported (.noEntry "extern/(internal/reflectlite.Value).Set.unaddressable")
    let val ← loadVar src b
    if ← Rtype.directlyAssignable dst src then storeVar dst a val
    else if ← Rtype.implements dst src then
      if (← Rtype.kind src) == 20 then
        match val with
        | .nilIface => unsupported (.noEntry "extern/reflectlite: a nil value of one interface type handed on as a value of another")
        | _ => storeVar dst a val
      else storeVar dst a (.iface src val)
    else panicString ("reflectlite.Set: value of type " ++ (← Rtype.spelt src) ++ " is not assignable to type " ++ (← Rtype.spelt dst))
    pure (.tuple #[])) := rfl
theorem partsEa (a : Addr) (w : World) : (ReflectliteValue.parts (.agg #[.pointer (some ⟨10, 104, none⟩), .pointer (some a), .int .u64 409])).run Tryz.prog w = .ok (some (104, a, 409)) w := by kernel_rfl
theorem partsE (a : Addr) (w : World) : (ReflectliteValue.parts (.agg #[.pointer (some ⟨10, 104, none⟩), .pointer (some a), .int .u64 153])).run Tryz.prog w = .ok (some (104, a, 153)) w := by kernel_rfl
theorem directE (w : World) : (Rtype.directlyAssignable 104 104).run Tryz.prog w = .ok true w := by kernel_rfl
theorem setE (ta b : Addr) (old : Value) (W : World) (hb : W.cell? b = some (.iface 90 (.int .i64 2))) (ht : W.cell? ta = some old) (hf : W.frozen? ta = false) :
    (ReflectliteValue.set #[.agg #[.pointer (some ⟨10, 104, none⟩), .pointer (some ta), .int .u64 409], .agg #[.pointer (some ⟨10, 104, none⟩), .pointer (some b), .int .u64 153]]).run Tryz.prog W
      = .ok (.tuple #[]) (W.setCell ta (.iface 90 (.int .i64 2))) := by
  rw [rls]
  have hl : (loadCells b 1).run Tryz.prog W = .ok #[.iface 90 (.int .i64 2)] W := by
    have h0 : b.add 0 = b := by cases b; unfold Addr.add; first | rfl | (split <;> simp_all)
    simp [loadCells, loadCellsFrom, h0, hb]
  simp only [Sem.run_bind, partsEa, partsE, Result.andThen]
  simp [ReflectliteValue.flagAddr, loadVar, isAgg, underlying, Tryz.underlying104, hl, Tryz.isAgg104, Tryz.sizeOf104, Result.andThen, directE, storeVar, Value.cells, storeCells, Addr.add]
  rw [run_store Tryz.prog W ta _ _ (by rfl)]
  simp [ht, hf]
set_option maxHeartbeats 4000000 in
theorem as_hit (t : Addr) (old : Value) (w : World) (hg : Handle w) (ht0 : w.cell? t = some old) (hf0 : w.frozen? t = false) :
    Calls Tryz.prog 38 #[.iface 104 (.agg #[.iface 90 (.int .i64 2)]), .iface 106 (.pointer (some t))] w fun e w' => e = .returned (.bool true) ∧ w' = ((((w.alloc (.cells #[.pointer (some t)] 106)).alloc (.cells #[.pointer (some ⟨10, 106, none⟩), .pointer (some ⟨w.heap.size, 0, none⟩), .int .u64 150] 142)).alloc (.cells #[.pointer (some ⟨10, 106, none⟩), .pointer (some ⟨w.heap.size, 0, none⟩), .int .u64 150] 142)).alloc (.cells #[.iface 90 (.int .i64 2)] 104)).setCell t (.iface 90 (.int .i64 2)) := by
  have hg : w.cell? ⟨1, 0, none⟩ = some (.iface 175 (.agg #[.pointer (some ⟨10, 34, none⟩)])) := hg
  have h6 := @run_callFunc_extern Tryz.prog 62 _ (fun args => ReflectliteValue.unpack (args.getD 0 (.tuple #[]))) Tryz.func62 (by kernel_rfl) (by kernel_rfl) (by kernel_rfl) (by kernel_rfl)
  have h7 := @run_callFunc_extern Tryz.prog 63 _ (ReflectliteValue.methodAny (ReflectliteValue.valueError "reflectlite.Value.Type" 0) (fun t _ _ _ => ReflectliteType.toType t)) Tryz.func63 (by kernel_rfl) (by kernel_rfl) (by kernel_rfl) (by kernel_rfl)
  have h8 := @run_callFunc_extern Tryz.prog 64 _ (ReflectliteValue.method (ReflectliteValue.valueError "reflectlite.Value.IsNil" 0) ReflectliteValue.isNil) Tryz.func64 (by kernel_rfl) (by kernel_rfl) (by kernel_rfl) (by kernel_rfl)
  have h27 := @run_callFunc_extern Tryz.prog 183 _ (ReflectliteType.abiMethod fun t => do pure (.int .u8 (← Rtype.kind t))) Tryz.func183 (by kernel_rfl) (by kernel_rfl) (by kernel_rfl) (by kernel_rfl)
  have h37 := @run_callFunc_extern Tryz.prog 194 _ (ReflectliteType.method ReflectliteType.elem) Tryz.func194 (by kernel_rfl) (by kernel_rfl) (by kernel_rfl) (by kernel_rfl)
  have h38 := @run_callFunc_extern Tryz.prog 195 _ (ReflectliteType.relation "Implements" ReflectliteType.implements_) Tryz.func195 (by kernel_rfl) (by kernel_rfl) (by kernel_rfl) (by kernel_rfl)
  have h10 := @run_callFunc_extern Tryz.prog 89 _ ReflectliteType.typeOf Tryz.func89 (by kernel_rfl) (by kernel_rfl) (by kernel_rfl) (by kernel_rfl)
  have h35 := @run_callFunc_extern Tryz.prog 192 _ (ReflectliteType.relation "AssignableTo" ReflectliteType.assignableTo) Tryz.func192 (by kernel_rfl) (by kernel_rfl) (by kernel_rfl) (by kernel_rfl)
  have h11 := @run_callFunc_extern Tryz.prog 90 _ (ReflectliteValue.method (ReflectliteValue.valueError "reflectlite.Value.Elem" 0) ReflectliteValue.elem) Tryz.func90 (by kernel_rfl) (by kernel_rfl) (by kernel_rfl) (by kernel_rfl)
  have h12 := @run_callFunc_extern Tryz.prog 91 _ ReflectliteValue.set Tryz.func91 (by kernel_rfl) (by kernel_rfl) (by kernel_rfl) (by kernel_rfl)
  have tO := typeOfE
  have mA := methodAssignableTo
  have a25 := assignableE
  have v25 := valueOfE
  have f6 := valueOfT
  have f7 := typeT
  have mK := methodKind
  have mE := methodElem
  have mI := methodImplements
  have k27 := kindT
  have k25 := kindE
  have e27 := elemT
  have i25 := implementsE
  have n8 := isNilT ⟨w.heap.size, 0, none⟩ t ((w.alloc (.cells #[.pointer (some t)] 106)).alloc (.cells #[.pointer (some ⟨10, 106, none⟩), .pointer (some ⟨w.heap.size, 0, none⟩), .int .u64 150] 142)) (by simp)
  have hlt : 1 < w.heap.size := World.block_lt_of_cell? _ _ hg
  have hg2 : ((w.alloc (.cells #[.pointer (some t)] 106)).alloc (.cells #[.pointer (some ⟨10, 106, none⟩), .pointer (some ⟨w.heap.size, 0, none⟩), .int .u64 150] 142)).cell? ⟨1, 0, none⟩ = some (.iface 175 (.agg #[.pointer (some ⟨10, 34, none⟩)])) := by
    rw [World.cell?_alloc_lt _ _ ⟨1, 0, none⟩ (Nat.lt_of_lt_of_le hlt (by simp)), World.cell?_alloc_lt _ _ ⟨1, 0, none⟩ hlt]; exact hg
  have htl : t.block < w.heap.size := by
    rcases Nat.lt_or_ge t.block w.heap.size with h | h
    · exact h
    · simp [World.cell?, Array.getElem?_eq_none h] at ht0
  have el := elemVT ⟨w.heap.size, 0, none⟩ t (((w.alloc (.cells #[.pointer (some t)] 106)).alloc (.cells #[.pointer (some ⟨10, 106, none⟩), .pointer (some ⟨w.heap.size, 0, none⟩), .int .u64 150] 142)).alloc (.cells #[.pointer (some ⟨10, 106, none⟩), .pointer (some ⟨w.heap.size, 0, none⟩), .int .u64 150] 142)) (by rw [World.cell?_alloc_lt _ _ ⟨w.heap.size, 0, none⟩ (by simp; omega)]; simp)
  have st := setE t ⟨w.heap.size + 1 + 1 + 1, 0, none⟩ old ((((w.alloc (.cells #[.pointer (some t)] 106)).alloc (.cells #[.pointer (some ⟨10, 106, none⟩), .pointer (some ⟨w.heap.size, 0, none⟩), .int .u64 150] 142)).alloc (.cells #[.pointer (some ⟨10, 106, none⟩), .pointer (some ⟨w.heap.size, 0, none⟩), .int .u64 150] 142)).alloc (.cells #[.iface 90 (.int .i64 2)] 104))
    (by rw [World.cell?_alloc_at _ _ _ _ (by simp)]; rfl)
    (by rw [World.cell?_alloc_lt _ _ t (by simp; omega), World.cell?_alloc_lt _ _ t (by simp; omega), World.cell?_alloc_lt _ _ t (by simp; omega), World.cell?_alloc_lt _ _ t htl]; exact ht0)
    (by rw [World.frozen?_alloc_old _ _ t (by simp; omega), World.frozen?_alloc_old _ _ t (by simp; omega), World.frozen?_alloc_old _ _ t (by simp; omega), World.frozen?_alloc_old _ _ t (Nat.ne_of_lt htl)]; exact hf0)
  go_enter Tryz.func38, Tryz.ntmps38
  go_wp2
  refine wp_loop_rounds 1 ?_
  rw [rounds_succ]
  go_wp2
  go_ret
  exact ⟨rfl, rfl⟩
theorem assignableM (w : World) : (ReflectliteType.relation "AssignableTo" ReflectliteType.assignableTo #[.agg #[.pointer (some ⟨10, 90, none⟩)], .iface 175 (.agg #[.pointer (some ⟨10, 104, none⟩)])]).run Tryz.prog w = .ok (.bool false) w := by kernel_rfl
theorem noAsE (v : Value) (xT : TypeId) (w : World) : (Instr.typeAssert (.iface 90 v) xT 180 true).run Tryz.prog w = .ok (.tuple #[.nilIface, .bool false]) w := run_typeAssert_lacksB Tryz.underlying180 (by kernel_rfl) (by kernel_rfl) v xT w
theorem noUnE (v : Value) (xT : TypeId) (w : World) : (Instr.typeAssert (.iface 90 v) xT 183 true).run Tryz.prog w = .ok (.tuple #[.nilIface, .bool false]) w := run_typeAssert_lacksB Tryz.underlying183 (by kernel_rfl) (by kernel_rfl) v xT w
theorem noUsE (v : Value) (xT : TypeId) (w : World) : (Instr.typeAssert (.iface 90 v) xT 185 true).run Tryz.prog w = .ok (.tuple #[.nilIface, .bool false]) w := run_typeAssert_lacksB Tryz.underlying185 (by kernel_rfl) (by kernel_rfl) v xT w
set_option maxHeartbeats 4000000 in
theorem as_miss (n : Int) (t : Addr) (old : Value) (w : World) (hg : Handle w) (ht0 : w.cell? t = some old) :
    Calls Tryz.prog 38 #[.iface 90 (.int .i64 n), .iface 106 (.pointer (some t))] w fun e w' => e = .returned (.bool false) ∧ w' = (((w.alloc (.cells #[.pointer (some t)] 106)).alloc (.cells #[.pointer (some ⟨10, 106, none⟩), .pointer (some ⟨w.heap.size, 0, none⟩), .int .u64 150] 142)).alloc (.cells #[.pointer (some ⟨10, 106, none⟩), .pointer (some ⟨w.heap.size, 0, none⟩), .int .u64 150] 142)) := by
  have hg : w.cell? ⟨1, 0, none⟩ = some (.iface 175 (.agg #[.pointer (some ⟨10, 34, none⟩)])) := hg
  have h6 := @run_callFunc_extern Tryz.prog 62 _ (fun args => ReflectliteValue.unpack (args.getD 0 (.tuple #[]))) Tryz.func62 (by kernel_rfl) (by kernel_rfl) (by kernel_rfl) (by kernel_rfl)
  have h7 := @run_callFunc_extern Tryz.prog 63 _ (ReflectliteValue.methodAny (ReflectliteValue.valueError "reflectlite.Value.Type" 0) (fun t _ _ _ => ReflectliteType.toType t)) Tryz.func63 (by kernel_rfl) (by kernel_rfl) (by kernel_rfl) (by kernel_rfl)
  have h8 := @run_callFunc_extern Tryz.prog 64 _ (ReflectliteValue.method (ReflectliteValue.valueError "reflectlite.Value.IsNil" 0) ReflectliteValue.isNil) Tryz.func64 (by kernel_rfl) (by kernel_rfl) (by kernel_rfl) (by kernel_rfl)
  have h27 := @run_callFunc_extern Tryz.prog 183 _ (ReflectliteType.abiMethod fun t => do pure (.int .u8 (← Rtype.kind t))) Tryz.func183 (by kernel_rfl) (by kernel_rfl) (by kernel_rfl) (by kernel_rfl)
  have h37 := @run_callFunc_extern Tryz.prog 194 _ (ReflectliteType.method ReflectliteType.elem) Tryz.func194 (by kernel_rfl) (by kernel_rfl) (by kernel_rfl) (by kernel_rfl)
  have h38 := @run_callFunc_extern Tryz.prog 195 _ (ReflectliteType.relation "Implements" ReflectliteType.implements_) Tryz.func195 (by kernel_rfl) (by kernel_rfl) (by kernel_rfl) (by kernel_rfl)
  have h10 := @run_callFunc_extern Tryz.prog 89 _ ReflectliteType.typeOf Tryz.func89 (by kernel_rfl) (by kernel_rfl) (by kernel_rfl) (by kernel_rfl)
  have h35 := @run_callFunc_extern Tryz.prog 192 _ (ReflectliteType.relation "AssignableTo" ReflectliteType.assignableTo) Tryz.func192 (by kernel_rfl) (by kernel_rfl) (by kernel_rfl) (by kernel_rfl)
  have tO := As.typeOfE
  have mA := methodAssignableTo
  have a25 := assignableM
  have f6 := valueOfT
  have f7 := typeT
  have mK := methodKind
  have mE := methodElem
  have mI := methodImplements
  have k27 := kindT
  have k25 := kindE
  have e27 := elemT
  have i25 := implementsE
  have n8 := isNilT ⟨w.heap.size, 0, none⟩ t ((w.alloc (.cells #[.pointer (some t)] 106)).alloc (.cells #[.pointer (some ⟨10, 106, none⟩), .pointer (some ⟨w.heap.size, 0, none⟩), .int .u64 150] 142)) (by simp)
  have hlt : 1 < w.heap.size := World.block_lt_of_cell? _ _ hg
  have hg2 : ((w.alloc (.cells #[.pointer (some t)] 106)).alloc (.cells #[.pointer (some ⟨10, 106, none⟩), .pointer (some ⟨w.heap.size, 0, none⟩), .int .u64 150] 142)).cell? ⟨1, 0, none⟩ = some (.iface 175 (.agg #[.pointer (some ⟨10, 34, none⟩)])) := by
    rw [World.cell?_alloc_lt _ _ ⟨1, 0, none⟩ (Nat.lt_of_lt_of_le hlt (by simp)), World.cell?_alloc_lt _ _ ⟨1, 0, none⟩ hlt]; exact hg
  have htl : t.block < w.heap.size := by
    rcases Nat.lt_or_ge t.block w.heap.size with h | h
    · exact h
    · simp [World.cell?, Array.getElem?_eq_none h] at ht0
  have x1 := noAsE
  have x2 := noUnE
  have x3 := noUsE
  go_enter Tryz.func38, Tryz.ntmps38
  go_wp2
  refine wp_loop_rounds 1 ?_
  rw [rounds_succ]
  go_wp2
  go_ret
  exact ⟨rfl, rfl⟩
end AsB
abbrev BdO (b : Nat) (v : Value) : HProp := blk b (.cells #[v] 104 (0, 0))
theorem as_bad {w0 w : World} {R : HProp} (hg : As.Handle w0) (b : Nat) (v : Value) (h : Own w0 (BdO b v * R) w) :
    Calls Tryz.prog 38 #[.iface 104 (.agg #[.iface 90 (.int .i64 2)]), .iface 106 (.pointer (some ⟨b, 0, none⟩))] w fun e w' => e = .returned (.bool true) ∧ Own w0 R w' := by
  have hlt : (⟨1, 0, none⟩ : Addr).block < w0.heap.size := World.block_lt_of_cell? _ _ hg
  have hw : As.Handle w := by unfold As.Handle; rw [h.below.cell (p := ⟨1, 0, none⟩) hlt]; exact hg
  refine (AsB.as_hit ⟨b, 0, none⟩ v w hw ((h.cell 0).trans rfl) (h.free 0 none)).mono ?_
  rintro e w' ⟨rfl, rfl⟩
  refine ⟨rfl, ?_⟩
  have h1 : ∀ o1 o2 o3 o4, Own w0 (BdO b v * R) ((((w.alloc o1).alloc o2).alloc o3).alloc o4) := fun o1 o2 o3 o4 => (((h.alloc' o1).alloc' o2).alloc' o3).alloc' o4
  exact (Own.setCell (i := 0) (v := .iface 90 (.int .i64 2)) (h1 _ _ _ _)).drop
theorem as_badno {w0 w : World} {R : HProp} (hg : As.Handle w0) (n : Int) (b : Nat) (v : Value) (h : Own w0 (BdO b v * R) w) :
    Calls Tryz.prog 38 #[.iface 90 (.int .i64 n), .iface 106 (.pointer (some ⟨b, 0, none⟩))] w fun e w' => e = .returned (.bool false) ∧ Own w0 R w' := by
  have hlt : (⟨1, 0, none⟩ : Addr).block < w0.heap.size := World.block_lt_of_cell? _ _ hg
  have hw : As.Handle w := by unfold As.Handle; rw [h.below.cell (p := ⟨1, 0, none⟩) hlt]; exact hg
  refine (AsB.as_miss n ⟨b, 0, none⟩ v w hw ((h.cell 0).trans rfl)).mono ?_
  rintro e w' ⟨rfl, rfl⟩
  exact ⟨rfl, ((((h.alloc' _).alloc' _).alloc' _)).drop⟩
end Go.Proofs.YtdfjbnfdknpahaaGreatDoor
/- An error's own text. -/
namespace Go.Proofs.YtdfjbnfdknpahaaGreatDoor
set_option linter.unusedVariables false
set_option linter.unusedSimpArgs false
open Go.RowKit
set_option maxRecDepth 100000 in
set_option maxHeartbeats 4000000 in
theorem errE_any (n : Nat) (hn : n ≤ 8) (w : World) :
    Calls Tryz.prog 39 #[.int .i64 (n : Nat)] w fun e w' => e = .returned (.string (tx (nmB n))) ∧ w = w' := by
  rcases (show n = 0 ∨ n = 1 ∨ n = 2 ∨ n = 3 ∨ n = 4 ∨ n = 5 ∨ n = 6 ∨ n = 7 ∨ n = 8 by omega) with rfl | rfl | rfl | rfl | rfl | rfl | rfl | rfl | rfl
  all_goals
    go_enter Tryz.func39, Tryz.ntmps39
    go_wp2_with fail
    go_ret
    exact ⟨rfl, rfl⟩
end Go.Proofs.YtdfjbnfdknpahaaGreatDoor
/- run's answer to a line. -/
namespace Go.Proofs.YtdfjbnfdknpahaaGreatDoor
set_option linter.unusedVariables false
set_option linter.unusedSimpArgs false
open Go.RowKit
theorem CZ.er {c : Cs} (h : CZ c) (s : List UInt8) : (lineR c s).2.2 = 9 ∨ (lineR c s).2.2 ≤ 8 := by
  unfold lineR
  split
  · right
    unfold doR
    split
    · exact say_le ..
    split
    · exact give_le ..
    split
    · exact drop_le ..
    split
    · exact twice_le ..
    split
    · exact Nat.zero_le _
    split
    · exact h.heard_le _
    split
    · show facesErr c.hist ≤ 8
      rw [h.right]; decide
    split
    · rename_i h1; exact absurd h.r0 h1
    split
    · show 1 ≤ 8
      decide
    · show 0 ≤ 8
      decide
  · exact .inl rfl
set_option maxRecDepth 100000 in
set_option maxHeartbeats 4000000 in
theorem pans_any {w0 w : World} {R : HProp} (hW : RunW w0) (p : Nat) (c : Cs) (hz : CZ c) (s : List UInt8) (hs : s.length ≤ 3000) (h : Own w0 (CsP p c * R) w) :
    Calls Tryz.prog 14 #[dkV p, .string (tx s)] w fun e w' => e = .returned (.string (tx (lineA c s).2)) ∧ Own w0 (CsP p (lineA c s).1 * R) w' := by
  have her := hz.er s
  obtain ⟨L, hL⟩ : ∃ L, L = lineA c s := ⟨_, rfl⟩
  rw [← hL]
  obtain ⟨b2, hb_b2⟩ : ∃ zz_, zz_ = (w).heap.size := ⟨_, rfl⟩
  obtain ⟨w1, hw_w1⟩ : ∃ zz_, zz_ = (w).alloc (.cells #[.pointer (some ⟨p, 0, none⟩)] 38 (0, 0)) := ⟨_, rfl⟩
  have h_H1 := (h).alloc (.cells #[.pointer (some ⟨p, 0, none⟩)] 38 (0, 0))
  rw [← hb_b2, ← hw_w1] at h_H1
  have H1 := Lib.hid h_H1
  clear h_H1
  have c2 := Own.dk H1.out
  have ho1 : Own w0 (CsP p c * (DkO b2 p * R)) w1 := H1.out.perm (by ac_rfl)
  have hln := pline_any hW p c hz s hs ho1
  obtain ⟨S, hS⟩ : ∃ S, S = tx s := ⟨_, rfl⟩
  rw [← hS] at hln ⊢
  obtain ⟨c', t, er, hA⟩ : ∃ c' t er, lineR c s = (c', t, er) := ⟨_, _, _, rfl⟩
  have hLA : L = (c', ansB (t, er)) := by rw [hL]; unfold lineA; rw [hA]
  rw [hA] at her hln
  subst hLA
  obtain ⟨T, hT⟩ : ∃ T, T = tx (ansB (t, er)) := ⟨_, rfl⟩
  rw [show tx (c', ansB (t, er)).2 = T from hT.symm]
  have H := Lib.hid h; have HO1 := Lib.hid ho1; have HZ := Lib.hid hz; have HLN := Lib.hid hln; have HS := Lib.hid hS; have HA := Lib.hid hA; have HER := Lib.hid her; have HL := Lib.hid hL; have HT := Lib.hid hT
  clear h ho1 hz hln hS hA her hL hT
  clear H1
  go_enter Tryz.func14, Tryz.ntmps14
  go_upto_region 1 with fail
  rw [← hb_b2, ← hw_w1]
  clear hb_b2 hw_w1
  go_wp2_with fail
  refine HLN.out.mono ?_
  rintro e w2 ⟨rfl, ho⟩
  have ho2 : Own w0 (CsP p c' * R) w2 := (ho.perm (show _ = DkO b2 p * (CsP p c' * R) by ac_rfl)).drop
  obtain ⟨b7, hb_b7⟩ : ∃ zz_, zz_ = (w2).heap.size := ⟨_, rfl⟩
  obtain ⟨w7, hw_w7⟩ : ∃ zz_, zz_ = (w2).alloc (.cells #[.nilIface] 104 (0, 0)) := ⟨_, rfl⟩
  have h_H7 := (ho2).alloc (.cells #[.nilIface] 104 (0, 0))
  rw [← hb_b7, ← hw_w7] at h_H7
  have H7 := Lib.hid h_H7
  clear h_H7
  obtain ⟨b8, hb_b8⟩ : ∃ zz_, zz_ = (w7).heap.size := ⟨_, rfl⟩
  obtain ⟨w8, hw_w8⟩ : ∃ zz_, zz_ = (w7).alloc (.cells #[.int .i64 0] 90 (0, 0)) := ⟨_, rfl⟩
  have h_H8 := (H7.out).alloc (.cells #[.int .i64 0] 90 (0, 0))
  rw [← hb_b8, ← hw_w8] at h_H8
  have H8 := Lib.hid h_H8
  clear h_H8
  clear ho H7
  have HO2 := Lib.hid ho2
  clear ho2
  have hc8 : w8.cell? ⟨b8, 0, none⟩ = some (.int .i64 0) := (H8.out.cell 0).trans rfl
  have HB8 : Hid (Own w0 (BdO b7 .nilIface * (ErO b8 0 * (CsP p c' * R))) w8) := Lib.hid ((show Own w0 (ErO b8 0 * (BdO b7 .nilIface * (CsP p c' * R))) w8 from H8.out).perm (by ac_rfl))
  clear H8
  go_upto_region 3 with fail
  rw [← hb_b7, ← hw_w7]
  clear hb_b7 hw_w7
  rcases HER.out with h9 | h8
  · have h9' : er = 9 := h9
    subst h9'
    rw [show lnV (c', t, 9).2.2 = .iface 104 (.agg #[.iface 90 (.int .i64 2)]) from rfl]
    go_upto_region 4 with fail
    rw [← hb_b8, ← hw_w8]
    clear hb_b8 hw_w8
    go_wp2_with fail
    refine (as_bad hW.hg b7 .nilIface HB8.out).mono ?_
    rintro e w9 ⟨rfl, ho⟩
    have HO9 := Lib.hid ho.drop
    clear ho
    go_wp2_with fail
    go_ret
    exact ⟨by rw [HT.out]; rfl, HO9.out⟩
  · have h8' : er ≤ 8 := h8
    rw [show lnV (c', t, er).2.2 = errV er from lnV_ne h8']
    rcases Nat.eq_zero_or_pos er with h0 | hpos
    · subst h0
      rw [show errV 0 = .nilIface from rfl]
      have hT0 : tx t = T := HT.out.symm
      have HT0 := Lib.hid hT0
      clear hT0
      go_upto_region 4 with fail
      rw [← hb_b8, ← hw_w8]
      clear hb_b8 hw_w8
      go_wp2_with fail
      refine (as_nil _ _).mono ?_
      rintro e w9 ⟨rfl, rfl⟩
      go_wp2_with fail
      refine (as_nil _ _).mono ?_
      rintro e w10 ⟨rfl, rfl⟩
      go_wp2_with fail
      go_ret
      exact ⟨by rw [← HT0.out]; rfl, HB8.out.drop.drop⟩
    · have hv : errV er = .iface 90 (.int .i64 (er : Int)) := by
        cases er with
        | zero => cases hpos
        | succ k => rfl
      have hans : ansB (t, er) = nmB er := by unfold ansB; rw [if_neg (by show er ≠ 9; omega), if_neg (by show er ≠ 0; omega)]
      rw [hv]
      have hne := errE_any er h8'
      have hT2 : tx (nmB er) = T := by rw [HT.out, hans]
      rw [hT2] at hne
      have HT2 := Lib.hid hT2; have HV := Lib.hid hv; have HANS := Lib.hid hans; have HNE := Lib.hid hne
      clear hT2 hv hans hne
      go_upto_region 4 with fail
      rw [← hb_b8, ← hw_w8]
      clear hb_b8 hw_w8
      go_wp2_with fail
      refine (as_badno hW.hg (er : Int) b7 .nilIface HB8.out).mono ?_
      rintro e w9 ⟨rfl, ho⟩
      have HO9 := Lib.hid ho
      clear ho
      go_wp2_with fail
      refine (as_own hW.hg er (by omega) b8 0 HO9.out).mono ?_
      rintro e w10 ⟨rfl, ho⟩
      have c10 : w10.cell? ⟨b8, 0, none⟩ = some (.int .i64 er) := (ho.cell 0).trans rfl
      have HO10 := Lib.hid ho.drop
      clear ho
      go_wp2_with fail
      refine (HNE.out _).mono ?_
      rintro e w11 ⟨rfl, rfl⟩
      go_wp2_with fail
      go_ret
      exact ⟨rfl, HO10.out⟩
end Go.Proofs.YtdfjbnfdknpahaaGreatDoor
/- A session: how long the answers are. -/
namespace Go.Proofs.YtdfjbnfdknpahaaGreatDoor
set_option linter.unusedVariables false
set_option linter.unusedSimpArgs false
open Go.RowKit
theorem rowW_len (ws : List (List UInt8)) : (rowW ws).length ≤ 1 + (joinB ws).length := by
  unfold rowW
  split <;> simp
theorem rowT_len {l : List Int} (h : Small l) : (rowT l).length ≤ 10000001 := by
  rw [rowT_it]
  have h1 := rowW_len (itW l)
  have h2 := itW_join h
  omega
theorem nmB_len (e : Nat) : (nmB e).length ≤ 20 := by
  unfold nmB
  split <;> simp
theorem faB_len (f c t : Bool) : (faB f c t).length ≤ 30 := by cases f <;> cases c <;> cases t <;> decide
theorem CZ.ansLen {c : Cs} (h : CZ c) (s : List UInt8) : (lineA c s).2.length ≤ 10000001 := by
  show (ansB (lineR c s).2).length ≤ _
  unfold ansB
  split
  · decide
  split
  · unfold lineR
    split
    · unfold doR
      split
      · show okW.length ≤ _; decide
      split
      · exact rowT_len (h.given _)
      split
      · show okW.length ≤ _; decide
      split
      · show okW.length ≤ _; decide
      split
      · show (rowW (c.net.all.map pkB)).length ≤ _
        have h1 := rowW_len (c.net.all.map pkB)
        have h2 := joinB_len (pk_words (ps := c.net.all) h.i.net.ok)
        have h3 := h.i.net.len
        rw [List.length_map] at h2
        omega
      split
      · exact rowT_len (h.heardS _)
      split
      · exact Nat.le_trans (faB_len ..) (by decide)
      split
      · exact Nat.zero_le _
      split
      · exact Nat.zero_le _
      · rename_i hl
        refine rowT_len (vecs_small h.rH _ ?_)
        rw [← h.vecE, List.getD_eq_getElem?_getD, List.getElem?_eq_getElem (by omega)]
        exact List.getElem_mem _
    · exact Nat.zero_le _
  · exact Nat.le_trans (nmB_len _) (by decide)
theorem CZ.runLen {c : Cs} (h : CZ c) (l : List (List UInt8)) : (runA c l).length ≤ l.length * 10000002 := by
  induction l generalizing c with
  | nil => exact Nat.le_refl _
  | cons x r ih =>
    have h1 := h.ansLen x
    have h2 := ih (h.line x)
    show ((lineA c x).2 ++ 10 :: runA (lineA c x).1 r).length ≤ _
    rw [List.length_append, List.length_cons, List.length_cons, Nat.succ_mul]
    omega
theorem rawL_len : ∀ t : List UInt8, (rawL t).length ≤ t.length ∧ ∀ x ∈ rawL t, x.length ≤ t.length
  | [] => ⟨Nat.le_refl _, fun x hx => by cases hx⟩
  | b :: r => by
    obtain ⟨h1, h2⟩ := rawL_len r
    rw [rawL]
    split
    · refine ⟨by simp; omega, fun x hx => ?_⟩
      rcases List.mem_cons.1 hx with rfl | hx
      · simp
      · have := h2 x hx; simp; omega
    · split
      · refine ⟨by simp, fun x hx => ?_⟩
        rw [List.mem_singleton.1 hx]; simp
      · rename_i x y hxy
        rw [hxy] at h1 h2
        refine ⟨by simp at h1 ⊢; omega, fun z hz => ?_⟩
        rcases List.mem_cons.1 hz with rfl | hz
        · have := h2 x (List.mem_cons_self ..); simp; omega
        · have := h2 z (List.mem_cons_of_mem _ hz); simp; omega
theorem trimB_len (s : List UInt8) : (trimB s).length ≤ s.length := by
  unfold trimB
  split
  · rw [List.length_dropLast]; omega
  · exact Nat.le_refl _
def tooLong : List UInt8 := [116, 111, 111, 32, 108, 111, 110, 103, 10]
def runB (t : List UInt8) : List UInt8 := if 3000 < t.length then tooLong else sessB t
theorem cz3 : CZ (csNew 3) := CZ.new (by decide) (by decide)
end Go.Proofs.YtdfjbnfdknpahaaGreatDoor
/- Contracts of package pieces: Split. -/
namespace Go.Proofs.YtdfjbnfdknpahaaGreatDoor
set_option linter.unusedVariables false
set_option linter.unusedSimpArgs false
open Go.RowKit
end Go.Proofs.YtdfjbnfdknpahaaGreatDoor
/- Contracts of package pieces: who joins them. -/
namespace Go.Proofs.YtdfjbnfdknpahaaGreatDoor
set_option linter.unusedVariables false
set_option linter.unusedSimpArgs false
open Go.RowKit Go.Maps
section
variable {w0 w : World} {p mb N : Nat} {m : List (Int × ByteArray)} {R : HProp}
end
end Go.Proofs.YtdfjbnfdknpahaaGreatDoor
/- Words as bytes, plainly: packing, unpacking, and that they undo one another. -/
namespace Go.Proofs.YtdfjbnfdknpahaaGreatDoor
set_option linter.unusedVariables false
set_option linter.unusedSimpArgs false
open Go.RowKit
end Go.Proofs.YtdfjbnfdknpahaaGreatDoor
/- Contracts of package wire: sum, check, Pack. -/
namespace Go.Proofs.YtdfjbnfdknpahaaGreatDoor
set_option linter.unusedVariables false
set_option linter.unusedSimpArgs false
open Go.RowKit
def u8V (b : UInt8) : Value := .int .u8 (b.toNat : Int)
def ByRd (w : World) (v : Value) (l : List UInt8) : Prop := Rd w v l.length (l.map u8V)
theorem ByRd.at {w : World} {ad : Option Addr} {n cap : Nat} {l : List UInt8} (h : ByRd w (.slice ad n cap) l) (k : Nat) (hk : k < l.length) : ∃ a : Addr, ad = some a ∧ w.cell? (a.add k) = some (.int .u8 ((l[k]).toNat : Int)) := by
  obtain ⟨ad', cap', e, _, _, _, hc⟩ := h
  cases e
  exact hc k _ (by simp [hk, u8V])
theorem ByRd.shape {w : World} {v : Value} {l : List UInt8} (h : ByRd w v l) : ∃ ad cap, v = .slice ad l.length cap ∧ l.length ≤ cap ∧ cap ≤ 9223372036854775807 := by
  obtain ⟨ad', cap', e, h1, h2, _, hc⟩ := h
  exact ⟨_, _, e, h1, by simpa [maxLen] using h2⟩
end Go.Proofs.YtdfjbnfdknpahaaGreatDoor
/- strings.Builder, made by the call itself: WriteString, String. (The kit's laws on the builder's memory: Derived.Lib.Builder.) -/
namespace Go.Proofs.YtdfjbnfdknpahaaGreatDoor
set_option linter.unusedVariables false
set_option linter.unusedSimpArgs false
open Go.RowKit
/-- The builder in block b, of the address word p, holds the bytes l. -/
def BAt (b : Nat) (p : Value) (l : List UInt8) (w : World) : Prop :=
  ∃ v, w.heap[b]? = some (.cells #[p, v] 42 (0, 0)) ∧ w.ownsRow b 5 1 v l.length (Lib.byteCells l) ∧ v.ownBlock ≠ some b ∧ (v = .slice none 0 0 ↔ l = [])
def BIs (b : Nat) (l : List UInt8) (w : World) : Prop := BAt b (.pointer none) l w ∨ BAt b (.pointer (some ⟨b, 0, none⟩)) l w
theorem BAt.lt {b : Nat} {p : Value} {l : List UInt8} {w : World} (h : BAt b p l w) : b < w.heap.size := by
  obtain ⟨v, hb, _⟩ := h
  rcases Nat.lt_or_ge b w.heap.size with h' | h'
  · exact h'
  · simp [Array.getElem?_eq_none h'] at hb
theorem BIs.lt {b : Nat} {l : List UInt8} {w : World} (h : BIs b l w) : b < w.heap.size := by rcases h with h | h <;> exact h.lt
theorem BIs.drew {b : Nat} {l : List UInt8} {w : World} (h : BIs b l w) : BIs b l w.drew := h
theorem bld_size : (Tryz.prog.info? 42).map (·.size) = some 2 := by kernel_rfl
theorem bld_lies : liesAt Tryz.prog Tryz.prog.depth 42 (2 / Tryz.prog.cellsOf 42) 0 42 1 = true := by kernel_rfl
theorem bld_byte : (Tryz.prog.info? 5).map (fun i => (i.zero, i.size, i.bytes)) = some (some (.int .u8 0), 1, 1) := by kernel_rfl
theorem bld_one : Tryz.prog.cellsOf 5 = 1 := by kernel_rfl
set_option maxRecDepth 100000 in
set_option maxHeartbeats 4000000 in
theorem bCopy_used {w : World} (b : Nat) (h0 : w.cell? ⟨b, 0, none⟩ = some (.pointer (some ⟨b, 0, none⟩))) :
    Calls Tryz.prog 36 #[.pointer (some ⟨b, 0, none⟩)] w fun e w' => e = .returned (.tuple #[]) ∧ w' = w := by
  obtain ⟨j, hj, _⟩ := Option.map_eq_some_iff.1 bld_size
  go_enter Tryz.func36, Tryz.ntmps36
  go_wp2
  rw [Lib.run_neq_ptr_same w _ Tryz.underlying39 hj]
  go_wp2
  go_end0
  exact ⟨rfl, rfl⟩
set_option maxRecDepth 100000 in
set_option maxHeartbeats 4000000 in
theorem bCopy_fresh {w : World} (b : Nat) (h0 : w.cell? ⟨b, 0, none⟩ = some (.pointer none)) (hsh : w.shape? b = some (42, 2)) (hfz : w.frozen? ⟨b, 0, none⟩ = false) :
    Calls Tryz.prog 36 #[.pointer (some ⟨b, 0, none⟩)] w fun e w' => e = .returned (.tuple #[]) ∧ w' = w.setCell ⟨b, 0, none⟩ (.pointer (some ⟨b, 0, none⟩)) := by
  obtain ⟨j, hj, hjs⟩ := Option.map_eq_some_iff.1 bld_size
  go_enter Tryz.func36, Tryz.ntmps36
  go_wp2
  rw [Lib.run_to_unsafe w ⟨b, 0, none⟩ Tryz.underlying39 Tryz.underlying125 hj (by rw [hjs]; decide) hsh (Nat.zero_lt_succ 1)]
  simp only [Result.andThen]
  rw [Oper.upon_value]
  go_wp2
  rw [run_callFunc_extern Tryz.func48 (by kernel_rfl) (by kernel_rfl) (by kernel_rfl) (e := Extern.AbiNoEscape.same) (by kernel_rfl)]
  rw [Lib.run_noEscape]
  simp only [Result.andThen]
  rw [Oper.upon_value]
  go_wp2
  rw [Lib.run_from_unsafe w ⟨b, 0, none⟩ Tryz.underlying125 Tryz.underlying39 hj hsh bld_lies]
  simp only [Result.andThen]
  rw [Oper.upon_value]
  go_wp2
  go_end0
  exact ⟨rfl, rfl⟩
end Go.Proofs.YtdfjbnfdknpahaaGreatDoor
