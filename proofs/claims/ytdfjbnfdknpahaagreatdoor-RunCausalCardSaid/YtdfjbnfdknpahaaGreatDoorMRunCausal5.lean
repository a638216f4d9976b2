/- errors.As at a number of api, and what plain.Told makes of an error: its number. (After the guide's Toyas example, at a target that is a number.) -/
import Derived.Test.YtdfjbnfdknpahaaGreatDoorMRunCausal2
import Derived.LaidEql
import Derived.Stop.Asserts
import Derived.RowKitTokens
import Derived.Test.YtdfjbnfdknpahaaGreatDoorMRunCausal4
import Derived.Lib.AppendIntMem
import Derived.Test.YtdfjbnfdknpahaaGreatDoorMRunCausal3
namespace Go.Proofs.YtdfjbnfdknpahaaGreatDoor
open Go.RowKit Go.Extern.Stop Go.Stop Go.Extern
set_option linter.unusedVariables false
namespace As
/-- The variable errors.errorType holds the handle of the type error. -/
def Handle (w : World) : Prop := w.cell? ⟨1, 0, none⟩ = some (.iface 175 (.agg #[.pointer (some ⟨10, 34, none⟩)]))
theorem valueOfT (t : Addr) (w : World) : (ReflectliteValue.unpack (.iface 107 (.pointer (some t)))).run Tryz.prog w
    = .ok (.agg #[.pointer (some ⟨10, 107, none⟩), .pointer (some ⟨w.heap.size, 0, none⟩), .int .u64 150]) (w.alloc (.cells #[.pointer (some t)] 107)) := by kernel_rfl
theorem typeT (a : Addr) (w : World) : (ReflectliteValue.methodAny (ReflectliteValue.valueError "reflectlite.Value.Type" 0) (fun t _ _ _ => ReflectliteType.toType t) #[.agg #[.pointer (some ⟨10, 107, none⟩), .pointer (some a), .int .u64 150]]).run Tryz.prog w
    = .ok (.iface 175 (.agg #[.pointer (some ⟨10, 107, none⟩)])) w := by kernel_rfl
theorem methodKind (h : Value) (w : World) : (Go.method 390 175 (.agg #[h]) "Kind").run Tryz.prog w = .ok (183, h) w := by kernel_rfl
theorem kindT (w : World) : ((ReflectliteType.abiMethod fun t => (fun a : Nat => Value.int IntKind.u8 (a : Int)) <$> Rtype.kind t) #[.pointer (some ⟨10, 107, none⟩)]).run Tryz.prog w = .ok (.int .u8 22) w := by kernel_rfl
theorem kindE (w : World) : ((ReflectliteType.abiMethod fun t => (fun a : Nat => Value.int IntKind.u8 (a : Int)) <$> Rtype.kind t) #[.pointer (some ⟨10, 90, none⟩)]).run Tryz.prog w = .ok (.int .u8 2) w := by kernel_rfl
theorem rlm (z : Sem Value) (f : TypeId → Addr → Nat → Nat → Sem Value) (v : Value) :
    ReflectliteValue.method z f #[v] = (do match ← ReflectliteValue.parts v with | none => z | some (t, a, fl) => f t a fl (fl % 32)) := rfl
theorem partsT (a : Addr) (w : World) : (ReflectliteValue.parts (.agg #[.pointer (some ⟨10, 107, none⟩), .pointer (some a), .int .u64 150])).run Tryz.prog w = .ok (some (107, a, 150)) w := by kernel_rfl
theorem isNilT (a p : Addr) (W : World) (ha : W.cell? a = some (.pointer (some p))) :
    (ReflectliteValue.method (ReflectliteValue.valueError "reflectlite.Value.IsNil" 0) ReflectliteValue.isNil #[.agg #[.pointer (some ⟨10, 107, none⟩), .pointer (some a), .int .u64 150]]).run Tryz.prog W = .ok (.bool false) W := by
  rw [rlm]
  simp only [Sem.run_bind, partsT, Result.andThen]
  simp [ReflectliteValue.isNil, loadVar, isAgg, underlying, Tryz.underlying107, ha, Result.andThen]
theorem methodElem (h : Value) (w : World) : (Go.method 390 175 (.agg #[h]) "Elem").run Tryz.prog w = .ok (194, .agg #[h]) w := by kernel_rfl
theorem methodImplements (h : Value) (w : World) : (Go.method 390 175 (.agg #[h]) "Implements").run Tryz.prog w = .ok (195, .agg #[h]) w := by kernel_rfl
theorem methodAssignableTo (h : Value) (w : World) : (Go.method 390 175 (.agg #[h]) "AssignableTo").run Tryz.prog w = .ok (192, .agg #[h]) w := by kernel_rfl
theorem elemT (w : World) : (ReflectliteType.method ReflectliteType.elem #[.agg #[.pointer (some ⟨10, 107, none⟩)]]).run Tryz.prog w = .ok (.iface 175 (.agg #[.pointer (some ⟨10, 90, none⟩)])) w := by kernel_rfl
theorem implementsE (w : World) : (ReflectliteType.relation "Implements" ReflectliteType.implements_ #[.agg #[.pointer (some ⟨10, 90, none⟩)], .iface 175 (.agg #[.pointer (some ⟨10, 34, none⟩)])]).run Tryz.prog w = .ok (.bool true) w := by kernel_rfl
theorem typeOfE (v : Value) (w : World) : (ReflectliteType.typeOf #[.iface 90 v]).run Tryz.prog w = .ok (.iface 175 (.agg #[.pointer (some ⟨10, 90, none⟩)])) w := by kernel_rfl
theorem assignableE (w : World) : (ReflectliteType.relation "AssignableTo" ReflectliteType.assignableTo #[.agg #[.pointer (some ⟨10, 90, none⟩)], .iface 175 (.agg #[.pointer (some ⟨10, 90, none⟩)])]).run Tryz.prog w = .ok (.bool true) w := by kernel_rfl
theorem valueOfE (n : Int) (w : World) : (ReflectliteValue.unpack (.iface 90 (.int .i64 n))).run Tryz.prog w
    = .ok (.agg #[.pointer (some ⟨10, 90, none⟩), .pointer (some ⟨w.heap.size, 0, none⟩), .int .u64 130]) (w.alloc (.cells #[.int .i64 n] 90)) := by kernel_rfl
theorem elemOfT (w : World) : (Rtype.elem? 107).run Tryz.prog w = .ok (some 90) w := by kernel_rfl
theorem mkE (p : Addr) (w : World) : (ReflectliteValue.mk 90 p ReflectliteValue.flagAddr).run Tryz.prog w = .ok (.agg #[.pointer (some ⟨10, 90, none⟩), .pointer (some p), .int .u64 386]) w := by kernel_rfl
theorem elemVT (a p : Addr) (W : World) (ha : W.cell? a = some (.pointer (some p))) :
    (ReflectliteValue.method (ReflectliteValue.valueError "reflectlite.Value.Elem" 0) ReflectliteValue.elem #[.agg #[.pointer (some ⟨10, 107, none⟩), .pointer (some a), .int .u64 150]]).run Tryz.prog W
      = .ok (.agg #[.pointer (some ⟨10, 90, none⟩), .pointer (some p), .int .u64 386]) W := by
  rw [rlm]
  simp only [Sem.run_bind, partsT, Result.andThen]
  simp [ReflectliteValue.elem, loadVar, isAgg, underlying, Tryz.underlying107, ha, Result.andThen, elemOfT, mkE]
theorem rls (v x : Value) : ReflectliteValue.set #[v, x] = (do
    let (some (dst, a, fl), some (src, b, _)) := (← ReflectliteValue.parts v, ← ReflectliteValue.parts x)
      | unsupported (.noEntry "extern/(internal/reflectlite.Value).Set.zeroValue")
    if fl / ReflectliteValue.flagAddr % 2 == 0 then unsupported (.noEntry "extern/(internal/reflectlite.Value).Set.unaddressable")
    let val ← loadVar src b
    if ← Rtype.directlyAssignable dst src then storeVar dst a val
    else if ← Rtype.implements dst src then
      if (← Rtype.kind src) == 20 then
        match val with
        | .nilIface => unsupported (.noEntry "extern/reflectlite: a nil value of one interface type handed on as a value of another")
        | _ => storeVar dst a val
      else storeVar dst a (.iface src val)
    else panicString ("reflectlite.Set: value of type " ++ (← Rtype.spelt src) ++ " is not assignable to type " ++ (← Rtype.spelt dst))
    pure (.tuple #[])) := rfl
theorem partsEa (a : Addr) (w : World) : (ReflectliteValue.parts (.agg #[.pointer (some ⟨10, 90, none⟩), .pointer (some a), .int .u64 386])).run Tryz.prog w = .ok (some (90, a, 386)) w := by kernel_rfl
theorem partsE (a : Addr) (w : World) : (ReflectliteValue.parts (.agg #[.pointer (some ⟨10, 90, none⟩), .pointer (some a), .int .u64 130])).run Tryz.prog w = .ok (some (90, a, 130)) w := by kernel_rfl
theorem directE (w : World) : (Rtype.directlyAssignable 90 90).run Tryz.prog w = .ok true w := by kernel_rfl
theorem sizeE (w : World) : (sizeOf 90).run Tryz.prog w = .ok 1 w := by kernel_rfl
theorem setE (ta b : Addr) (n : Int) (old : Value) (W : World) (hb : W.cell? b = some (.int .i64 n)) (ht : W.cell? ta = some old) (hf : W.frozen? ta = false) :
    (ReflectliteValue.set #[.agg #[.pointer (some ⟨10, 90, none⟩), .pointer (some ta), .int .u64 386], .agg #[.pointer (some ⟨10, 90, none⟩), .pointer (some b), .int .u64 130]]).run Tryz.prog W
      = .ok (.tuple #[]) (W.setCell ta (.int .i64 n)) := by
  rw [rls]
  simp only [Sem.run_bind, partsEa, partsE, Result.andThen]
  simp [ReflectliteValue.flagAddr, loadVar, isAgg, underlying, Tryz.underlying90, hb, Result.andThen, directE, storeVar, Value.cells, storeCells, Addr.add]
  rw [run_store Tryz.prog W ta _ _ (by rfl)]
  simp [ht, hf]
set_option maxHeartbeats 4000000 in
theorem as_hit (n : Int) (t : Addr) (old : Value) (w : World) (hg : Handle w) (ht0 : w.cell? t = some old) (hf0 : w.frozen? t = false) :
    Calls Tryz.prog 38 #[.iface 90 (.int .i64 n), .iface 107 (.pointer (some t))] w fun ev w' => ev = .returned (.bool true) ∧ w' = ((((w.alloc (.cells #[.pointer (some t)] 107)).alloc (.cells #[.pointer (some ⟨10, 107, none⟩), .pointer (some ⟨w.heap.size, 0, none⟩), .int .u64 150] 142)).alloc (.cells #[.pointer (some ⟨10, 107, none⟩), .pointer (some ⟨w.heap.size, 0, none⟩), .int .u64 150] 142)).alloc (.cells #[.int .i64 n] 90)).setCell t (.int .i64 n) := by
  have hg : w.cell? ⟨1, 0, none⟩ = some (.iface 175 (.agg #[.pointer (some ⟨10, 34, none⟩)])) := hg
  have h6 := @run_callFunc_extern Tryz.prog 62 _ (fun args => ReflectliteValue.unpack (args.getD 0 (.tuple #[]))) Tryz.func62 (by kernel_rfl) (by kernel_rfl) (by kernel_rfl) (by kernel_rfl)
  have h7 := @run_callFunc_extern Tryz.prog 63 _ (ReflectliteValue.methodAny (ReflectliteValue.valueError "reflectlite.Value.Type" 0) (fun t _ _ _ => ReflectliteType.toType t)) Tryz.func63 (by kernel_rfl) (by kernel_rfl) (by kernel_rfl) (by kernel_rfl)
  have h8 := @run_callFunc_extern Tryz.prog 64 _ (ReflectliteValue.method (ReflectliteValue.valueError "reflectlite.Value.IsNil" 0) ReflectliteValue.isNil) Tryz.func64 (by kernel_rfl) (by kernel_rfl) (by kernel_rfl) (by kernel_rfl)
  have h27 := @run_callFunc_extern Tryz.prog 183 _ (ReflectliteType.abiMethod fun t => do pure (.int .u8 (← Rtype.kind t))) Tryz.func183 (by kernel_rfl) (by kernel_rfl) (by kernel_rfl) (by kernel_rfl)
  have h37 := @run_callFunc_extern Tryz.prog 194 _ (ReflectliteType.method ReflectliteType.elem) Tryz.func194 (by kernel_rfl) (by kernel_rfl) (by kernel_rfl) (by kernel_rfl)
  have h38 := @run_callFunc_extern Tryz.prog 195 _ (ReflectliteType.relation "Implements" ReflectliteType.implements_) Tryz.func195 (by kernel_rfl) (by kernel_rfl) (by kernel_rfl) (by kernel_rfl)
  have h10 := @run_callFunc_extern Tryz.prog 89 _ ReflectliteType.typeOf Tryz.func89 (by kernel_rfl) (by kernel_rfl) (by kernel_rfl) (by kernel_rfl)
  have h35 := @run_callFunc_extern Tryz.prog 192 _ (ReflectliteType.relation "AssignableTo" ReflectliteType.assignableTo) Tryz.func192 (by kernel_rfl) (by kernel_rfl) (by kernel_rfl) (by kernel_rfl)
  have h11 := @run_callFunc_extern Tryz.prog 90 _ (ReflectliteValue.method (ReflectliteValue.valueError "reflectlite.Value.Elem" 0) ReflectliteValue.elem) Tryz.func90 (by kernel_rfl) (by kernel_rfl) (by kernel_rfl) (by kernel_rfl)
  have h12 := @run_callFunc_extern Tryz.prog 91 _ ReflectliteValue.set Tryz.func91 (by kernel_rfl) (by kernel_rfl) (by kernel_rfl) (by kernel_rfl)
  have tO := typeOfE
  have mA := methodAssignableTo
  have a25 := assignableE
  have v25 := valueOfE
  have f6 := valueOfT
  have f7 := typeT
  have mK := methodKind
  have mE := methodElem
  have mI := methodImplements
  have k27 := kindT
  have k25 := kindE
  have e27 := elemT
  have i25 := implementsE
  have n8 := isNilT ⟨w.heap.size, 0, none⟩ t ((w.alloc (.cells #[.pointer (some t)] 107)).alloc (.cells #[.pointer (some ⟨10, 107, none⟩), .pointer (some ⟨w.heap.size, 0, none⟩), .int .u64 150] 142)) (by simp)
  have hlt : 1 < w.heap.size := World.block_lt_of_cell? _ _ hg
  have hg2 : ((w.alloc (.cells #[.pointer (some t)] 107)).alloc (.cells #[.pointer (some ⟨10, 107, none⟩), .pointer (some ⟨w.heap.size, 0, none⟩), .int .u64 150] 142)).cell? ⟨1, 0, none⟩ = some (.iface 175 (.agg #[.pointer (some ⟨10, 34, none⟩)])) := by
    rw [World.cell?_alloc_lt _ _ ⟨1, 0, none⟩ (Nat.lt_of_lt_of_le hlt (by simp)), World.cell?_alloc_lt _ _ ⟨1, 0, none⟩ hlt]; exact hg
  have htl : t.block < w.heap.size := by
    rcases Nat.lt_or_ge t.block w.heap.size with h | h
    · exact h
    · simp [World.cell?, Array.getElem?_eq_none h] at ht0
  have el := elemVT ⟨w.heap.size, 0, none⟩ t (((w.alloc (.cells #[.pointer (some t)] 107)).alloc (.cells #[.pointer (some ⟨10, 107, none⟩), .pointer (some ⟨w.heap.size, 0, none⟩), .int .u64 150] 142)).alloc (.cells #[.pointer (some ⟨10, 107, none⟩), .pointer (some ⟨w.heap.size, 0, none⟩), .int .u64 150] 142)) (by rw [World.cell?_alloc_lt _ _ ⟨w.heap.size, 0, none⟩ (by simp; omega)]; simp)
  have st := setE t ⟨w.heap.size + 1 + 1 + 1, 0, none⟩ n old ((((w.alloc (.cells #[.pointer (some t)] 107)).alloc (.cells #[.pointer (some ⟨10, 107, none⟩), .pointer (some ⟨w.heap.size, 0, none⟩), .int .u64 150] 142)).alloc (.cells #[.pointer (some ⟨10, 107, none⟩), .pointer (some ⟨w.heap.size, 0, none⟩), .int .u64 150] 142)).alloc (.cells #[.int .i64 n] 90))
    (by rw [World.cell?_alloc_at _ _ _ _ (by simp)]; rfl)
    (by rw [World.cell?_alloc_lt _ _ t (by simp; omega), World.cell?_alloc_lt _ _ t (by simp; omega), World.cell?_alloc_lt _ _ t (by simp; omega), World.cell?_alloc_lt _ _ t htl]; exact ht0)
    (by rw [World.frozen?_alloc_old _ _ t (by simp; omega), World.frozen?_alloc_old _ _ t (by simp; omega), World.frozen?_alloc_old _ _ t (by simp; omega), World.frozen?_alloc_old _ _ t (Nat.ne_of_lt htl)]; exact hf0)
  go_enter Tryz.func38, Tryz.ntmps38
  go_wp2
  refine wp_loop_rounds 1 ?_
  rw [rounds_succ]
  go_wp2
  go_ret
  exact ⟨rfl, rfl⟩
end As
end Go.Proofs.YtdfjbnfdknpahaaGreatDoor
/- What run reads of the world; strconv.Atoi and Itoa at every word; run's number. -/
namespace Go.Proofs.YtdfjbnfdknpahaaGreatDoor
set_option linter.unusedVariables false
set_option linter.unusedSimpArgs false
open Go.RowKit
structure RunW (w : World) : Prop where
  hg : As.Handle w
  tab : Lib.TabIs Tryz.prog w "internal/strconv.uint64pow10" .u64 Lib.pow10Tab
  es : ∃ te pe, w.cell? ⟨5, 0, none⟩ = some (.iface te pe)
  er : ∃ te pe, w.cell? ⟨6, 0, none⟩ = some (.iface te pe)
  un : w.cell? ⟨0, 0, none⟩ = some (.iface 90 (.int .i64 2))
theorem RunW.below {w w' : World} (h : RunW w) (hb : Below w.heap.size w w') : RunW w' where
  hg := by
    have hlt := World.block_lt_of_cell? _ _ h.hg
    unfold As.Handle; rw [hb.cell (p := ⟨1, 0, none⟩) hlt]; exact h.hg
  tab := (Lib.tabBelow_of_tabIs h.tab) w' hb
  es := by
    obtain ⟨te, pe, hc⟩ := h.es
    exact ⟨te, pe, by rw [hb.cell (World.block_lt_of_cell? _ _ hc)]; exact hc⟩
  er := by
    obtain ⟨te, pe, hc⟩ := h.er
    exact ⟨te, pe, by rw [hb.cell (World.block_lt_of_cell? _ _ hc)]; exact hc⟩
  un := by rw [hb.cell (World.block_lt_of_cell? _ _ h.un)]; exact h.un
set_option maxRecDepth 100000 in
set_option maxHeartbeats 4000000 in
theorem itoa_any {w0 w : World} {R : HProp} (hW : RunW w0) (n : Int) (hn : I64 n) (h : Own w0 R w) :
    Calls Tryz.prog 79 #[.int .i64 n] w fun e w' => e = .returned (.string (tx (Lib.itoa n))) ∧ Own w0 R w' := by
  refine Calls.mono (Any.strconv_Itoa itL n (by have := hn; unfold I64 at this; omega) (by have := hn; unfold I64 at this; omega) w (hW.below h.below).tab) ?_
  rintro e w' ⟨rfl, k, os, rfl⟩
  refine ⟨rfl, h.und ⟨rfl, rfl, rfl, ?_, fun j hj => Array.getElem?_append_left hj⟩⟩
  show w.heap.size ≤ (w.heap ++ os).size
  simp
set_option maxRecDepth 100000 in
set_option maxHeartbeats 4000000 in
theorem atoi_any {w0 w : World} {R : HProp} (hW : RunW w0) (s : List UInt8) (hs : s.length ≤ 90000) (h : Own w0 R w) :
    Calls Tryz.prog 95 #[.string (tx s)] w fun e w' => ∃ v ev, e = .returned (.tuple #[.int .i64 v, ev]) ∧ Own w0 R w' ∧ ((ev = .nilIface ∧ Lib.atoiAll s = .ok v) ∨ ((∃ te pe, ev = .iface te pe) ∧ numOk s = false)) := by
  have hsz := tx_size s
  have hww := hW.below h.below
  cases ha : Lib.atoiAll s
  · rename_i v
    refine Calls.mono (Any.strconv_Atoi_ok atL (tx s) (by omega) v (by rw [tx_list]; exact ha) w) ?_
    rintro e w' ⟨rfl, hw'⟩
    refine ⟨v, .nilIface, rfl, h.und ?_, .inl ⟨rfl, rfl⟩⟩
    rcases hw' with rfl | ⟨t, rfl⟩
    · exact Below.refl _ _
    · exact Lib.bytesWorld_below _ _ _
  · skip
    obtain ⟨te, pe, hc⟩ := hww.es
    refine Calls.mono (Any.strconv_Atoi_syntax atL (tx s) (by omega) (by rw [tx_list]; exact ha) (.iface te pe) w hc (.inr ⟨_, _, rfl⟩)) ?_
    rintro e w' ⟨N, rfl, _, _, hb⟩
    refine ⟨_, _, rfl, h.und hb, .inr ⟨⟨_, _, rfl⟩, ?_⟩⟩
    cases hk : numOk s with
    | false => rfl
    | true => rw [num_atoi hk] at ha; cases ha
  · skip
    obtain ⟨te, pe, hc⟩ := hww.er
    refine Calls.mono (Any.strconv_Atoi_range atL (tx s) (by omega) (by rw [tx_list]; exact ha) (.iface te pe) w hc (.inr ⟨_, _, rfl⟩)) ?_
    rintro e w' ⟨N, rfl, _, _, hb⟩
    refine ⟨_, _, rfl, h.und hb, .inr ⟨⟨_, _, rfl⟩, ?_⟩⟩
    cases hk : numOk s with
    | false => rfl
    | true => rw [num_atoi hk] at ha; cases ha
end Go.Proofs.YtdfjbnfdknpahaaGreatDoor
/- run's number: a word that is a number. -/
namespace Go.Proofs.YtdfjbnfdknpahaaGreatDoor
set_option linter.unusedVariables false
set_option linter.unusedSimpArgs false
open Go.RowKit
set_option maxRecDepth 100000 in
set_option maxHeartbeats 4000000 in
theorem pnum_any {w0 w : World} {R : HProp} (hW : RunW w0) (s : List UInt8) (hs : s.length ≤ 90000) (h : Own w0 R w) :
    Calls Tryz.prog 72 #[.string (tx s)] w fun e w' => ∃ n, e = .returned (.tuple #[.int .i64 n, .bool (numOk s)]) ∧ (numOk s = true → n = (numV s : Nat)) ∧ Own w0 R w' := by
  obtain ⟨n, hn⟩ : ∃ n, n = s.length := ⟨_, rfl⟩
  have hlen : ∀ (ty : TypeId) (w : World), (Builtin.len_ #[9] ty #[.string (tx s)]).run Tryz.prog w = .ok (.int .i64 (n : Int)) w := fun ty w => by
    rw [run_len_string w _ _ _ Tryz.underlying9, tx_size, ← hn]; rfl
  have hA := atoi_any hW s hs h
  obtain ⟨B, hB⟩ : ∃ B, B = numOk s := ⟨_, rfl⟩
  have hI : ∀ (v : Int) (w2 : World), I64 v → Own w0 R w2 → Calls Tryz.prog 79 #[.int .i64 v] w2 fun e w' => e = .returned (.string (tx (Lib.itoa v))) ∧ Own w0 R w' := fun v w2 hv ho => itoa_any hW v hv ho
  obtain ⟨S, hS⟩ : ∃ S, S = tx s := ⟨_, rfl⟩
  rw [← hS] at hA hlen ⊢
  have hbnd : ∀ v, Lib.atoiAll s = .ok v → I64 v := fun v hv => by
    have := Lib.atoiAll_bounds hv
    unfold I64; omega
  rw [← hB] at hA ⊢
  have H := Lib.hid h; have HA := Lib.hid hA; have HI := Lib.hid hI; have HN := Lib.hid hn; have HS := Lib.hid hS; have HB := Lib.hid hB; have HBND := Lib.hid hbnd
  clear h hA hI hn hS hB hbnd
  go_enter Tryz.func72, Tryz.ntmps72
  go_wp2_with fail
  refine HA.out.mono ?_
  rintro e w2 ⟨v, ev, rfl, ho, hc⟩
  have HO := Lib.hid ho
  clear ho
  rcases hc with ⟨rfl, hok⟩ | ⟨⟨te, pe, rfl⟩, hno⟩
  · have hv := HBND.out v hok
    have HV := Lib.hid hv
    by_cases h0 : 0 ≤ v
    · by_cases h4 : n ≤ 4
      · have d4 : decide ((n : Int) ≤ 4) = true := by rw [decide_eq_true_eq]; omega
        have hit := HI.out v w2 hv HO.out
        have hIT := Lib.hid hit
        obtain ⟨T, hT⟩ : ∃ T, T = tx (Lib.itoa v) := ⟨_, rfl⟩
        have hnv : numOk s = true → v = (numV s : Nat) := fun hk => by
          rw [num_atoi hk] at hok
          injection hok with hok
          exact hok.symm
        have heq : (T.toList == S.toList) = B := by
          rw [hT, HS.out, ByteArray.toList_eq, ByteArray.toList_eq]
          show ((tx (Lib.itoa v)).data.toList == (tx s).data.toList) = B
          rw [tx_list, tx_list, HB.out]
          cases hk : numOk s with
          | true => rw [hnv hk, num_itoa hk]; simp
          | false =>
            rw [beq_eq_false_iff_ne]
            intro he
            rw [itoa_num h0 (by have := HN.out; omega) he] at hk
            cases hk
        rw [← hT] at hit
        rw [← HB.out] at hnv
        have HIT := Lib.hid hit; have HT := Lib.hid hT; have HOK := Lib.hid hok; have HV := Lib.hid hv; have HNV := Lib.hid hnv
        clear hit hT hok hv hnv
        go_wp2_with fail
        refine HIT.out.mono ?_
        rintro e w3 ⟨rfl, ho⟩
        have HO3 := Lib.hid ho
        clear ho
        go_wp2_with fail
        go_ret2
        exact ⟨v, rfl, HNV.out, HO3.out⟩
      · have d4 : decide ((n : Int) ≤ 4) = false := by rw [decide_eq_false_iff_not]; omega
        have hk : B = false := by
          rw [HB.out]
          cases hk : numOk s with
          | false => rfl
          | true => have := (numOk_parts hk).2.1; have := HN.out; omega
        subst hk
        have HOK := Lib.hid hok; have HV := Lib.hid hv
        clear hok hv
        go_wp2_with fail
        go_ret2
        first | exact ⟨v, rfl, fun hc => (by cases hc), HO.out⟩ | exact ⟨⟨v, rfl⟩, HO.out⟩
    · have hk : B = false := by
        rw [HB.out]
        cases hk : numOk s with
        | false => rfl
        | true =>
          rw [num_atoi hk] at hok
          injection hok with hok
          omega
      subst hk
      have hlt : v < 0 := by omega
      have HOK := Lib.hid hok; have HV := Lib.hid hv; have H0 := Lib.hid h0
      clear hok hv h0
      go_wp2_with fail
      go_ret2
      first | exact ⟨v, rfl, fun hc => (by cases hc), HO.out⟩ | exact ⟨⟨v, rfl⟩, HO.out⟩
  · subst hno
    go_wp2_with fail
    go_ret2
    first | exact ⟨v, rfl, fun hc => (by cases hc), HO.out⟩ | exact ⟨⟨v, rfl⟩, HO.out⟩
end Go.Proofs.YtdfjbnfdknpahaaGreatDoor
/- strings.TrimSuffix at the end of a line. -/
namespace Go.Proofs.YtdfjbnfdknpahaaGreatDoor
set_option linter.unusedVariables false
set_option linter.unusedSimpArgs false
open Go.RowKit
def endsNl (s : List UInt8) : Bool := decide (s.getLast? = some 10)
def trimB (s : List UInt8) : List UInt8 := if endsNl s = true then s.dropLast else s
set_option maxRecDepth 100000 in
set_option maxHeartbeats 4000000 in
theorem hasSuf_any {w : World} (s : List UInt8) (hs : s.length ≤ 100000) :
    Calls Tryz.prog 66 #[.string (tx s), .string (tx [10])] w fun e w' => e = .returned (.bool (endsNl s)) ∧ w = w' := by
  obtain ⟨n, hn⟩ : ∃ n, n = s.length := ⟨_, rfl⟩
  have hlen : ∀ (ty : TypeId) (w : World), (Builtin.len_ #[9] ty #[.string (tx s)]).run Tryz.prog w = .ok (.int .i64 (n : Int)) w := fun ty w => by
    rw [run_len_string w _ _ _ Tryz.underlying9, tx_size, ← hn]; rfl
  have hlen2 : ∀ (ty : TypeId) (w : World), (Builtin.len_ #[9] ty #[.string (tx [10])]).run Tryz.prog w = .ok (.int .i64 1) w := fun ty w => by
    rw [run_len_string w _ _ _ Tryz.underlying9, tx_size]; rfl
  rw [← hn] at hs
  by_cases h0 : s = []
  · have hn0 : n = 0 := by rw [hn, h0]; rfl
    have he : endsNl s = false := by rw [h0]; rfl
    rw [he]
    subst hn0
    obtain ⟨S, hS⟩ : ∃ S, S = tx s := ⟨_, rfl⟩
    obtain ⟨P, hP⟩ : ∃ P, P = tx [10] := ⟨_, rfl⟩
    rw [← hS] at hlen ⊢
    rw [← hP] at hlen2 ⊢
    have HN := Lib.hid hn; have H0 := Lib.hid h0; have HE := Lib.hid he; have HS := Lib.hid hS; have HP := Lib.hid hP
    clear hn h0 he hS hP
    go_enter Tryz.func66, Tryz.ntmps66
    go_wp2_with fail
    go_ret
    exact ⟨rfl, rfl⟩
  have hpos : 1 ≤ n := by rw [hn]; exact List.length_pos_iff.2 h0
  obtain ⟨r, b, hrb⟩ : ∃ r b, s = r ++ [b] := ⟨s.dropLast, s.getLast h0, (List.dropLast_concat_getLast h0).symm⟩
  have hrl : r.length = n - 1 := by rw [hn, hrb, List.length_append]; simp
  have he : endsNl s = decide (b = 10) := by unfold endsNl; rw [hrb, List.getLast?_append]; simp
  have hsl2 : ∀ (w : World), (Instr.slice 9 (.string (tx s)) (some (.int .i64 ((n : Int) - 1))) none none).run Tryz.prog w = .ok (.string (tx [b])) w := fun w => by
    rw [run_slice_string_l w 9 (tx s) Tryz.underlying9 .i64 _ (by omega) (by rw [tx_size]; omega), show ((n : Int) - 1).toNat = n - 1 by omega, tx_extract, tx_size, ← hn, hrb, List.drop_append_of_le_length (by omega), ← hrl, List.drop_length]
    simp
    rw [List.take_of_length_le (by simp; omega)]
  have hcmp : ((tx [b]).toList == (tx [10]).toList) = decide (b = 10) := by
    rw [ByteArray.toList_eq, ByteArray.toList_eq]
    show (([b] : List UInt8) == [10]) = _
    simp [List.cons_beq_cons]
    first | rfl | (by_cases h : b = 10 <;> simp [h])
  rw [he]
  obtain ⟨Z, hZ⟩ : ∃ Z, Z = decide (b = 10) := ⟨_, rfl⟩
  rw [← hZ] at hcmp ⊢
  obtain ⟨S, hS⟩ : ∃ S, S = tx s := ⟨_, rfl⟩
  obtain ⟨P, hP⟩ : ∃ P, P = tx [10] := ⟨_, rfl⟩
  obtain ⟨T, hT⟩ : ∃ T, T = tx [b] := ⟨_, rfl⟩
  rw [← hS] at hlen hsl2 ⊢
  rw [← hP] at hlen2 hcmp ⊢
  rw [← hT] at hsl2 hcmp
  have HN := Lib.hid hn; have H0 := Lib.hid h0; have HE := Lib.hid he; have HS := Lib.hid hS; have HP := Lib.hid hP; have HT := Lib.hid hT; have HZ := Lib.hid hZ; have HRB := Lib.hid hrb; have HRL := Lib.hid hrl
  clear hn h0 he hS hP hT hZ hrb hrl
  go_enter Tryz.func66, Tryz.ntmps66
  go_wp2_with fail
  go_ret
  exact ⟨rfl, rfl⟩
set_option maxRecDepth 100000 in
set_option maxHeartbeats 4000000 in
theorem trimSuf_any {w : World} (s : List UInt8) (hs : s.length ≤ 100000) :
    Calls Tryz.prog 40 #[.string (tx s), .string (tx [10])] w fun e w' => e = .returned (.string (tx (trimB s))) ∧ w = w' := by
  have hsuf := hasSuf_any (w := w) s hs
  obtain ⟨n, hn⟩ : ∃ n, n = s.length := ⟨_, rfl⟩
  have hlen : ∀ (ty : TypeId) (w : World), (Builtin.len_ #[9] ty #[.string (tx s)]).run Tryz.prog w = .ok (.int .i64 (n : Int)) w := fun ty w => by
    rw [run_len_string w _ _ _ Tryz.underlying9, tx_size, ← hn]; rfl
  have hlen2 : ∀ (ty : TypeId) (w : World), (Builtin.len_ #[9] ty #[.string (tx [10])]).run Tryz.prog w = .ok (.int .i64 1) w := fun ty w => by
    rw [run_len_string w _ _ _ Tryz.underlying9, tx_size]; rfl
  rw [← hn] at hs
  cases hz : endsNl s
  · have ht : trimB s = s := by unfold trimB; rw [if_neg (by rw [hz]; simp)]
    rw [ht]
    rw [hz] at hsuf
    obtain ⟨S, hS⟩ : ∃ S, S = tx s := ⟨_, rfl⟩
    obtain ⟨P, hP⟩ : ∃ P, P = tx [10] := ⟨_, rfl⟩
    rw [← hS] at hlen hsuf ⊢
    rw [← hP] at hlen2 hsuf ⊢
    have HN := Lib.hid hn; have HZ := Lib.hid hz; have HT := Lib.hid ht; have HS := Lib.hid hS; have HP := Lib.hid hP; have HSUF := Lib.hid hsuf
    clear hn hz ht hS hP hsuf
    go_enter Tryz.func40, Tryz.ntmps40
    go_wp2_with fail
    refine HSUF.out.mono ?_
    rintro e w2 ⟨rfl, rfl⟩
    go_wp2_with fail
    go_ret
    exact ⟨rfl, rfl⟩
  · have ht : trimB s = s.dropLast := by unfold trimB; rw [if_pos hz]
    have hne : s ≠ [] := by intro hc; rw [hc] at hz; cases hz
    have hpos : 1 ≤ n := by rw [hn]; exact List.length_pos_iff.2 hne
    have hsl : ∀ (w : World), (Instr.slice 9 (.string (tx s)) none (some (.int .i64 ((n : Int) - 1))) none).run Tryz.prog w = .ok (.string (tx s.dropLast)) w := fun w => by
      rw [run_slice_string_h w 9 (tx s) Tryz.underlying9 .i64 _ (by omega) (by rw [tx_size]; omega), show ((n : Int) - 1).toNat = n - 1 by omega, tx_extract, List.drop_zero, Nat.sub_zero, List.dropLast_eq_take, ← hn]
    rw [ht]
    rw [hz] at hsuf
    obtain ⟨S, hS⟩ : ∃ S, S = tx s := ⟨_, rfl⟩
    obtain ⟨P, hP⟩ : ∃ P, P = tx [10] := ⟨_, rfl⟩
    obtain ⟨D, hD⟩ : ∃ D, D = tx s.dropLast := ⟨_, rfl⟩
    rw [← hS] at hlen hsl hsuf ⊢
    rw [← hP] at hlen2 hsuf ⊢
    rw [← hD] at hsl ⊢
    have HN := Lib.hid hn; have HZ := Lib.hid hz; have HT := Lib.hid ht; have HS := Lib.hid hS; have HP := Lib.hid hP; have HD := Lib.hid hD; have HSUF := Lib.hid hsuf; have HNE := Lib.hid hne
    clear hn hz ht hS hP hD hsuf hne
    go_enter Tryz.func40, Tryz.ntmps40
    go_wp2_with fail
    refine HSUF.out.mono ?_
    rintro e w2 ⟨rfl, rfl⟩
    go_wp2_with fail
    go_ret
    exact ⟨rfl, rfl⟩
set_option maxRecDepth 100000 in
set_option maxHeartbeats 4000000 in
theorem trim_any {w : World} (s : List UInt8) (hs : s.length ≤ 100000) :
    Calls Tryz.prog 15 #[.string (tx s), .string (tx [10])] w fun e w' => e = .returned (.string (tx (trimB s))) ∧ w = w' := by
  have hsuf := trimSuf_any (w := w) s hs
  obtain ⟨S, hS⟩ : ∃ S, S = tx s := ⟨_, rfl⟩
  obtain ⟨P, hP⟩ : ∃ P, P = tx [10] := ⟨_, rfl⟩
  obtain ⟨D, hD⟩ : ∃ D, D = tx (trimB s) := ⟨_, rfl⟩
  rw [← hS, ← hP, ← hD] at hsuf
  rw [← hS, ← hP, ← hD]
  have HS := Lib.hid hS; have HP := Lib.hid hP; have HD := Lib.hid hD; have HSUF := Lib.hid hsuf
  clear hS hP hD hsuf
  go_enter Tryz.func15, Tryz.ntmps15
  go_wp2_with fail
  refine HSUF.out.mono ?_
  rintro e w2 ⟨rfl, rfl⟩
  go_wp2_with fail
  go_ret
  exact ⟨rfl, rfl⟩
end Go.Proofs.YtdfjbnfdknpahaaGreatDoor
