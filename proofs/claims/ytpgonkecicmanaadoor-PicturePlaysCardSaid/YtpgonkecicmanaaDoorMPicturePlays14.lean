/- Pieces of a function's text, found by their numbers. -/
import Derived.Test.YtpgonkecicmanaaDoorMPicturePlays6
import Derived.Test.YtpgonkecicmanaaDoorMPicturePlays5
import Derived.Test.YtpgonkecicmanaaDoorMPicturePlays4
import Derived.LaidEql
import Derived.Stop.Asserts
import Derived.RowKitTokens
import Derived.Test.YtpgonkecicmanaaDoorMPicturePlays13
import Derived.Deep.DeepCutAuto
import Derived.Deep.CutBlock
namespace Go.Proofs.YtpgonkecicmanaaDoor
set_option linter.unusedVariables false
set_option linter.unusedSimpArgs false
open Go.RowKit
def findIf (t : Nat) : Code → Option Code
  | .cond (.tmp k) a b => if k = t then some (.cond (.tmp k) a b) else match findIf t a with
    | some c => some c
    | none => findIf t b
  | .seq a b => match findIf t a with
    | some c => some c
    | none => findIf t b
  | .block _ c => findIf t c
  | .loop c => findIf t c
  | .scope c => findIf t c
  | _ => none
def findBlock (t : Nat) : Code → Option Code
  | .cond _ a b => match findBlock t a with
    | some c => some c
    | none => findBlock t b
  | .seq a b => match findBlock t a with
    | some c => some c
    | none => findBlock t b
  | .block k c => if k = t then some (.block k c) else findBlock t c
  | .loop c => findBlock t c
  | .scope c => findBlock t c
  | _ => none
def findRegion (t : Nat) : Code → Option Code
  | .cond _ a b => match findRegion t a with
    | some c => some c
    | none => findRegion t b
  | .seq a b => match findRegion t a with
    | some c => some c
    | none => findRegion t b
  | .region k o d => if k = t then some (.region k o d) else none
  | .block _ c => findRegion t c
  | .loop c => findRegion t c
  | .scope c => findRegion t c
  | _ => none
end Go.Proofs.YtpgonkecicmanaaDoor
/- The numbers of a step, in an array of their own. -/
namespace Go.Proofs.YtpgonkecicmanaaDoor
set_option linter.unusedVariables false
set_option linter.unusedSimpArgs false
open Go.RowKit
def Nms (ty : TypeId) (b : Nat) (l : List Int) : HProp := blk b (.cells (l.map (Value.int .i64)).toArray ty (0, 0))
section
variable {w0 w : World} {ty : TypeId} {b : Nat} {l : List Int} {R : HProp}
theorem Own.nms_cell (h : Own w0 (Nms ty b l * R) w) (i : Nat) (hi : i < l.length) : w.cell? ⟨b, i, none⟩ = some (.int .i64 l[i]) := by
  rw [Own.cell h i]; simp [hi]
theorem Own.nms_free (h : Own w0 (Nms ty b l * R) w) (i : Nat) : w.frozen? ⟨b, i, none⟩ = false := Own.free h i none
theorem Own.nms_set (i : Nat) (x : Int) (h : Own w0 (Nms ty b l * R) w) : Own w0 (Nms ty b (l.set i x) * R) (w.setCell ⟨b, i, none⟩ (.int .i64 x)) := by
  have h1 := Own.setCell (i := i) (v := .int .i64 x) h
  refine h1.perm ?_
  unfold Nms
  rw [List.map_set]
  simp
end
def NmV (ty : TypeId) (n : Nat) (w : World) (b : Nat) (R : HProp) (wx : World) : Prop := ∃ l : List Int, l.length = n ∧ Own w (Nms ty b l * R) wx
theorem NmV.three {ty : TypeId} {w : World} {b : Nat} {R : HProp} {wx : World} (h : NmV ty 3 w b R wx) : ∃ x y z, Own w (Nms ty b [x, y, z] * R) wx := by
  obtain ⟨l, h3, ho⟩ := h
  match l, h3 with
  | [x, y, z], _ => exact ⟨x, y, z, ho⟩
theorem NmV.four {ty : TypeId} {w : World} {b : Nat} {R : HProp} {wx : World} (h : NmV ty 4 w b R wx) : ∃ x y z u, Own w (Nms ty b [x, y, z, u] * R) wx := by
  obtain ⟨l, h3, ho⟩ := h
  match l, h3 with
  | [x, y, z, u], _ => exact ⟨x, y, z, u, ho⟩
end Go.Proofs.YtpgonkecicmanaaDoor
/- errors.As at a number of api, and what plain.Told makes of an error: its number. (After the guide's Toyas example, at a target that is a number.) -/
namespace Go.Proofs.YtpgonkecicmanaaDoor
open Go.RowKit Go.Extern.Stop Go.Stop Go.Extern
set_option linter.unusedVariables false
namespace As
/-- The variable errors.errorType holds the handle of the type error. -/
def Handle (w : World) : Prop := w.cell? ⟨0, 0, none⟩ = some (.iface 228 (.agg #[.pointer (some ⟨5, 25, none⟩)]))
theorem valueOfT (t : Addr) (w : World) : (ReflectliteValue.unpack (.iface 186 (.pointer (some t)))).run Tryd.prog w
    = .ok (.agg #[.pointer (some ⟨5, 186, none⟩), .pointer (some ⟨w.heap.size, 0, none⟩), .int .u64 150]) (w.alloc (.cells #[.pointer (some t)] 186)) := by kernel_rfl
theorem typeT (a : Addr) (w : World) : (ReflectliteValue.methodAny (ReflectliteValue.valueError "reflectlite.Value.Type" 0) (fun t _ _ _ => ReflectliteType.toType t) #[.agg #[.pointer (some ⟨5, 186, none⟩), .pointer (some a), .int .u64 150]]).run Tryd.prog w
    = .ok (.iface 228 (.agg #[.pointer (some ⟨5, 186, none⟩)])) w := by kernel_rfl
theorem methodKind (h : Value) (w : World) : (Go.method 387 228 (.agg #[h]) "Kind").run Tryd.prog w = .ok (196, h) w := by kernel_rfl
theorem kindT (w : World) : ((ReflectliteType.abiMethod fun t => (fun a : Nat => Value.int IntKind.u8 (a : Int)) <$> Rtype.kind t) #[.pointer (some ⟨5, 186, none⟩)]).run Tryd.prog w = .ok (.int .u8 22) w := by kernel_rfl
theorem kindE (w : World) : ((ReflectliteType.abiMethod fun t => (fun a : Nat => Value.int IntKind.u8 (a : Int)) <$> Rtype.kind t) #[.pointer (some ⟨5, 125, none⟩)]).run Tryd.prog w = .ok (.int .u8 2) w := by kernel_rfl
theorem rlm (z : Sem Value) (f : TypeId → Addr → Nat → Nat → Sem Value) (v : Value) :
    ReflectliteValue.method z f #[v] = (do match ← ReflectliteValue.parts v with | none => z | some (t, a, fl) => f t a fl (fl % 32)) := rfl
theorem partsT (a : Addr) (w : World) : (ReflectliteValue.parts (.agg #[.pointer (some ⟨5, 186, none⟩), .pointer (some a), .int .u64 150])).run Tryd.prog w = .ok (some (186, a, 150)) w := by kernel_rfl
theorem isNilT (a p : Addr) (W : World) (ha : W.cell? a = some (.pointer (some p))) :
    (ReflectliteValue.method (ReflectliteValue.valueError "reflectlite.Value.IsNil" 0) ReflectliteValue.isNil #[.agg #[.pointer (some ⟨5, 186, none⟩), .pointer (some a), .int .u64 150]]).run Tryd.prog W = .ok (.bool false) W := by
  rw [rlm]
  simp only [Sem.run_bind, partsT, Result.andThen]
  simp [ReflectliteValue.isNil, loadVar, isAgg, underlying, Tryd.underlying186, ha, Result.andThen]
theorem methodElem (h : Value) (w : World) : (Go.method 387 228 (.agg #[h]) "Elem").run Tryd.prog w = .ok (206, .agg #[h]) w := by kernel_rfl
theorem methodImplements (h : Value) (w : World) : (Go.method 387 228 (.agg #[h]) "Implements").run Tryd.prog w = .ok (207, .agg #[h]) w := by kernel_rfl
theorem methodAssignableTo (h : Value) (w : World) : (Go.method 387 228 (.agg #[h]) "AssignableTo").run Tryd.prog w = .ok (204, .agg #[h]) w := by kernel_rfl
theorem elemT (w : World) : (ReflectliteType.method ReflectliteType.elem #[.agg #[.pointer (some ⟨5, 186, none⟩)]]).run Tryd.prog w = .ok (.iface 228 (.agg #[.pointer (some ⟨5, 125, none⟩)])) w := by kernel_rfl
theorem implementsE (w : World) : (ReflectliteType.relation "Implements" ReflectliteType.implements_ #[.agg #[.pointer (some ⟨5, 125, none⟩)], .iface 228 (.agg #[.pointer (some ⟨5, 25, none⟩)])]).run Tryd.prog w = .ok (.bool true) w := by kernel_rfl
theorem typeOfE (v : Value) (w : World) : (ReflectliteType.typeOf #[.iface 125 v]).run Tryd.prog w = .ok (.iface 228 (.agg #[.pointer (some ⟨5, 125, none⟩)])) w := by kernel_rfl
theorem assignableE (w : World) : (ReflectliteType.relation "AssignableTo" ReflectliteType.assignableTo #[.agg #[.pointer (some ⟨5, 125, none⟩)], .iface 228 (.agg #[.pointer (some ⟨5, 125, none⟩)])]).run Tryd.prog w = .ok (.bool true) w := by kernel_rfl
theorem valueOfE (n : Int) (w : World) : (ReflectliteValue.unpack (.iface 125 (.int .i64 n))).run Tryd.prog w
    = .ok (.agg #[.pointer (some ⟨5, 125, none⟩), .pointer (some ⟨w.heap.size, 0, none⟩), .int .u64 130]) (w.alloc (.cells #[.int .i64 n] 125)) := by kernel_rfl
theorem elemOfT (w : World) : (Rtype.elem? 186).run Tryd.prog w = .ok (some 125) w := by kernel_rfl
theorem mkE (p : Addr) (w : World) : (ReflectliteValue.mk 125 p ReflectliteValue.flagAddr).run Tryd.prog w = .ok (.agg #[.pointer (some ⟨5, 125, none⟩), .pointer (some p), .int .u64 386]) w := by kernel_rfl
theorem elemVT (a p : Addr) (W : World) (ha : W.cell? a = some (.pointer (some p))) :
    (ReflectliteValue.method (ReflectliteValue.valueError "reflectlite.Value.Elem" 0) ReflectliteValue.elem #[.agg #[.pointer (some ⟨5, 186, none⟩), .pointer (some a), .int .u64 150]]).run Tryd.prog W
      = .ok (.agg #[.pointer (some ⟨5, 125, none⟩), .pointer (some p), .int .u64 386]) W := by
  rw [rlm]
  simp only [Sem.run_bind, partsT, Result.andThen]
  simp [ReflectliteValue.elem, loadVar, isAgg, underlying, Tryd.underlying186, ha, Result.andThen, elemOfT, mkE]
theorem rls (v x : Value) : ReflectliteValue.set #[v, x] = (do
    let (some (dst, a, fl), some (src, b, _)) := (← ReflectliteValue.parts v, ← ReflectliteValue.parts x)
      | unsupported (.noEntry "extern/(internal/reflectlite.Value).Set.zeroValue")
    if fl / ReflectliteValue.flagAddr % 2 == 0 then unsupported (.noEntry "extern/(internal/reflectlite.Value).Set.unaddressable")
    let val ← loadVar src b
    if ← Rtype.directlyAssignable dst src then storeVar dst a val
    else if ← Rtype.implements dst src then
      if (← Rtype.kind src) == 20 then
        match val with
        | .nilIface => unsupported (.noEntry "extern/reflectlite: a nil value of one interface type handed on as a value of another")
        | _ => storeVar dst a val
      else storeVar dst a (.iface src val)
    else panicString ("reflectlite.Set: value of type " ++ (← Rtype.spelt src) ++ " is not assignable to type " ++ (← Rtype.spelt dst))
    pure (.tuple #[])) := rfl
theorem partsEa (a : Addr) (w : World) : (ReflectliteValue.parts (.agg #[.pointer (some ⟨5, 125, none⟩), .pointer (some a), .int .u64 386])).run Tryd.prog w = .ok (some (125, a, 386)) w := by kernel_rfl
theorem partsE (a : Addr) (w : World) : (ReflectliteValue.parts (.agg #[.pointer (some ⟨5, 125, none⟩), .pointer (some a), .int .u64 130])).run Tryd.prog w = .ok (some (125, a, 130)) w := by kernel_rfl
theorem directE (w : World) : (Rtype.directlyAssignable 125 125).run Tryd.prog w = .ok true w := by kernel_rfl
theorem sizeE (w : World) : (sizeOf 125).run Tryd.prog w = .ok 1 w := by kernel_rfl
theorem setE (ta b : Addr) (n : Int) (old : Value) (W : World) (hb : W.cell? b = some (.int .i64 n)) (ht : W.cell? ta = some old) (hf : W.frozen? ta = false) :
    (ReflectliteValue.set #[.agg #[.pointer (some ⟨5, 125, none⟩), .pointer (some ta), .int .u64 386], .agg #[.pointer (some ⟨5, 125, none⟩), .pointer (some b), .int .u64 130]]).run Tryd.prog W
      = .ok (.tuple #[]) (W.setCell ta (.int .i64 n)) := by
  rw [rls]
  simp only [Sem.run_bind, partsEa, partsE, Result.andThen]
  simp [ReflectliteValue.flagAddr, loadVar, isAgg, underlying, Tryd.underlying125, hb, Result.andThen, directE, storeVar, Value.cells, storeCells, Addr.add]
  rw [run_store Tryd.prog W ta _ _ (by rfl)]
  simp [ht, hf]
set_option maxHeartbeats 4000000 in
theorem as_hit (n : Int) (t : Addr) (old : Value) (w : World) (hg : Handle w) (ht0 : w.cell? t = some old) (hf0 : w.frozen? t = false) :
    Calls Tryd.prog 110 #[.iface 125 (.int .i64 n), .iface 186 (.pointer (some t))] w fun ev w' => ev = .returned (.bool true) ∧ w' = ((((w.alloc (.cells #[.pointer (some t)] 186)).alloc (.cells #[.pointer (some ⟨5, 186, none⟩), .pointer (some ⟨w.heap.size, 0, none⟩), .int .u64 150] 202)).alloc (.cells #[.pointer (some ⟨5, 186, none⟩), .pointer (some ⟨w.heap.size, 0, none⟩), .int .u64 150] 202)).alloc (.cells #[.int .i64 n] 125)).setCell t (.int .i64 n) := by
  have hg : w.cell? ⟨0, 0, none⟩ = some (.iface 228 (.agg #[.pointer (some ⟨5, 25, none⟩)])) := hg
  have h6 := @run_callFunc_extern Tryd.prog 136 _ (fun args => ReflectliteValue.unpack (args.getD 0 (.tuple #[]))) Tryd.func136 (by kernel_rfl) (by kernel_rfl) (by kernel_rfl) (by kernel_rfl)
  have h7 := @run_callFunc_extern Tryd.prog 137 _ (ReflectliteValue.methodAny (ReflectliteValue.valueError "reflectlite.Value.Type" 0) (fun t _ _ _ => ReflectliteType.toType t)) Tryd.func137 (by kernel_rfl) (by kernel_rfl) (by kernel_rfl) (by kernel_rfl)
  have h8 := @run_callFunc_extern Tryd.prog 138 _ (ReflectliteValue.method (ReflectliteValue.valueError "reflectlite.Value.IsNil" 0) ReflectliteValue.isNil) Tryd.func138 (by kernel_rfl) (by kernel_rfl) (by kernel_rfl) (by kernel_rfl)
  have h27 := @run_callFunc_extern Tryd.prog 196 _ (ReflectliteType.abiMethod fun t => do pure (.int .u8 (← Rtype.kind t))) Tryd.func196 (by kernel_rfl) (by kernel_rfl) (by kernel_rfl) (by kernel_rfl)
  have h37 := @run_callFunc_extern Tryd.prog 206 _ (ReflectliteType.method ReflectliteType.elem) Tryd.func206 (by kernel_rfl) (by kernel_rfl) (by kernel_rfl) (by kernel_rfl)
  have h38 := @run_callFunc_extern Tryd.prog 207 _ (ReflectliteType.relation "Implements" ReflectliteType.implements_) Tryd.func207 (by kernel_rfl) (by kernel_rfl) (by kernel_rfl) (by kernel_rfl)
  have h10 := @run_callFunc_extern Tryd.prog 157 _ ReflectliteType.typeOf Tryd.func157 (by kernel_rfl) (by kernel_rfl) (by kernel_rfl) (by kernel_rfl)
  have h35 := @run_callFunc_extern Tryd.prog 204 _ (ReflectliteType.relation "AssignableTo" ReflectliteType.assignableTo) Tryd.func204 (by kernel_rfl) (by kernel_rfl) (by kernel_rfl) (by kernel_rfl)
  have h11 := @run_callFunc_extern Tryd.prog 158 _ (ReflectliteValue.method (ReflectliteValue.valueError "reflectlite.Value.Elem" 0) ReflectliteValue.elem) Tryd.func158 (by kernel_rfl) (by kernel_rfl) (by kernel_rfl) (by kernel_rfl)
  have h12 := @run_callFunc_extern Tryd.prog 159 _ ReflectliteValue.set Tryd.func159 (by kernel_rfl) (by kernel_rfl) (by kernel_rfl) (by kernel_rfl)
  have tO := typeOfE
  have mA := methodAssignableTo
  have a25 := assignableE
  have v25 := valueOfE
  have f6 := valueOfT
  have f7 := typeT
  have mK := methodKind
  have mE := methodElem
  have mI := methodImplements
  have k27 := kindT
  have k25 := kindE
  have e27 := elemT
  have i25 := implementsE
  have n8 := isNilT ⟨w.heap.size, 0, none⟩ t ((w.alloc (.cells #[.pointer (some t)] 186)).alloc (.cells #[.pointer (some ⟨5, 186, none⟩), .pointer (some ⟨w.heap.size, 0, none⟩), .int .u64 150] 202)) (by simp)
  have hlt : 0 < w.heap.size := by
    rcases Nat.eq_zero_or_pos w.heap.size with h0 | h
    · simp [World.cell?, h0] at hg
    · exact h
  have hg2 : ((w.alloc (.cells #[.pointer (some t)] 186)).alloc (.cells #[.pointer (some ⟨5, 186, none⟩), .pointer (some ⟨w.heap.size, 0, none⟩), .int .u64 150] 202)).cell? ⟨0, 0, none⟩ = some (.iface 228 (.agg #[.pointer (some ⟨5, 25, none⟩)])) := by
    rw [World.cell?_alloc_lt _ _ ⟨0, 0, none⟩ (by simp), World.cell?_alloc_lt _ _ ⟨0, 0, none⟩ hlt]; exact hg
  have htl : t.block < w.heap.size := by
    rcases Nat.lt_or_ge t.block w.heap.size with h | h
    · exact h
    · simp [World.cell?, Array.getElem?_eq_none h] at ht0
  have el := elemVT ⟨w.heap.size, 0, none⟩ t (((w.alloc (.cells #[.pointer (some t)] 186)).alloc (.cells #[.pointer (some ⟨5, 186, none⟩), .pointer (some ⟨w.heap.size, 0, none⟩), .int .u64 150] 202)).alloc (.cells #[.pointer (some ⟨5, 186, none⟩), .pointer (some ⟨w.heap.size, 0, none⟩), .int .u64 150] 202)) (by rw [World.cell?_alloc_lt _ _ ⟨w.heap.size, 0, none⟩ (by simp; omega)]; simp)
  have st := setE t ⟨w.heap.size + 1 + 1 + 1, 0, none⟩ n old ((((w.alloc (.cells #[.pointer (some t)] 186)).alloc (.cells #[.pointer (some ⟨5, 186, none⟩), .pointer (some ⟨w.heap.size, 0, none⟩), .int .u64 150] 202)).alloc (.cells #[.pointer (some ⟨5, 186, none⟩), .pointer (some ⟨w.heap.size, 0, none⟩), .int .u64 150] 202)).alloc (.cells #[.int .i64 n] 125))
    (by rw [World.cell?_alloc_at _ _ _ _ (by simp)]; rfl)
    (by rw [World.cell?_alloc_lt _ _ t (by simp; omega), World.cell?_alloc_lt _ _ t (by simp; omega), World.cell?_alloc_lt _ _ t (by simp; omega), World.cell?_alloc_lt _ _ t htl]; exact ht0)
    (by rw [World.frozen?_alloc_old _ _ t (by simp; omega), World.frozen?_alloc_old _ _ t (by simp; omega), World.frozen?_alloc_old _ _ t (by simp; omega), World.frozen?_alloc_old _ _ t (Nat.ne_of_lt htl)]; exact hf0)
  go_enter Tryd.func110, Tryd.ntmps110
  go_wp2
  refine wp_loop_rounds 1 ?_
  rw [rounds_succ]
  go_wp2
  go_ret
  exact ⟨rfl, rfl⟩
end As
end Go.Proofs.YtpgonkecicmanaaDoor
/- What plain.Told makes of an error: its number. -/
namespace Go.Proofs.YtpgonkecicmanaaDoor
open Go.RowKit
set_option linter.unusedVariables false
/-- What plain.Told makes of an error. -/
theorem tell_any {w0 w : World} {R : HProp} (hg : As.Handle w0) (n : Nat) (h : Own w0 R w) :
    Calls Tryd.prog 63 #[errV n] w fun e w' => e = .returned (.int .i64 n) ∧ Own w0 R w' := by
  have HH := Lib.hid h
  cases n with
  | zero =>
    rw [errV0]
    go_enter Tryd.func63, Tryd.ntmps63
    go_wp2
    go_ret
    exact ⟨rfl, HH.out⟩
  | succ n =>
    rw [show errV (n + 1) = .iface 125 (.int .i64 ((n : Int) + 1)) from rfl]
    have hlt : (⟨0, 0, none⟩ : Addr).block < w0.heap.size := World.block_lt_of_cell? _ _ hg
    have hw : As.Handle w := by unfold As.Handle; rw [h.below.cell (p := ⟨0, 0, none⟩) hlt]; exact hg
    have hlw : (⟨0, 0, none⟩ : Addr).block < w.heap.size := World.block_lt_of_cell? _ _ hw
    have hw1 : As.Handle (w.alloc (.cells #[.int .i64 0] 125)) := by unfold As.Handle; rw [World.cell?_alloc_lt _ _ _ hlw]; exact hw
    have HW1 := Lib.hid hw1
    have g1 := (h.alloc (.cells #[.int .i64 0] 125))
    have HC := Lib.hid (g1.cell 0); have HF := Lib.hid (g1.free 0 none)
    clear hw hw1 hlw hlt h g1 hg
    go_enter Tryd.func63, Tryd.ntmps63
    go_wp2_with fail
    refine (As.as_hit _ ⟨w.heap.size, 0, none⟩ (.int .i64 0) _ HW1.out HC.out HF.out).mono ?_
    rintro e w' ⟨rfl, rfl⟩
    go_wp2
    go_ret
    exact ⟨by simp, ((((HH.out.alloc' _).alloc' _).alloc' _).alloc' _).alloc' _⟩
/-- Is an error the one told? -/
theorem sameErr_any {w0 w : World} {R : HProp} (hg : As.Handle w0) (n : Nat) (m : Int) (h : Own w0 R w) :
    Calls Tryd.prog 11 #[errV n, .int .i64 m] w fun e w' => e = .returned (.bool ((n : Int) == m)) ∧ Own w0 R w' := by
  have T := Lib.hid (tell_any hg n h)
  clear hg h
  go_enter Tryd.func11, Tryd.ntmps11
  go_wp2_with fail
  refine (T.out).mono ?_
  rintro e w' ⟨rfl, ho⟩
  have HO := Lib.hid ho
  clear ho
  go_wp2
  go_ret
  exact ⟨rfl, HO.out⟩
end Go.Proofs.YtpgonkecicmanaaDoor
/- PicturePlays: what the law's steps do to the reference's Picture. -/
namespace Go.Proofs.YtpgonkecicmanaaDoor
set_option linter.unusedVariables false
set_option linter.unusedSimpArgs false
open Go.RowKit Go.Maps
structure PpI (all : Int) (n : Nat) (s : Pic) : Prop where
  inv : PcInv all s
  len : s.gold.length = n
theorem PpI.pay {all : Int} {n : Nat} {s : Pic} (h : PpI all n s) (a b x : Int) : PpI all n (pcPay s a b x) := ⟨h.inv.pay a b x, by unfold pcPay; split <;> simp [h.len]⟩
theorem PpI.come {all : Int} {n : Nat} {s : Pic} (h : PpI all n s) (a b : Int) : PpI all n (pcCome s a b) := ⟨h.inv.come a b, by rw [(h.inv.come_len a b).1]; exact h.len⟩
theorem PpI.begin {all : Int} {n : Nat} {s : Pic} (h : PpI all n s) (a : Int) : PpI all n (pcBegin s a) := ⟨h.inv.begin a, by
  unfold pcBegin
  split
  · have h2 := (write_out { s with begun := true } a).gold
    rw [h2]; exact h.len
  · exact h.len⟩
theorem rpOf_pay {s : Pic} {P : Nat → Nat → Int} {cs : Array Value} {gv : Value} {rows : List (Value × List Int)} {x y : Nat} {n : Int} (he : RpC cs gv rows (rpOf s P)) (hx : x < 5) (hy : y < 5) (v : Value) (hE : pcPayErr s (x : Int) (y : Int) n = 0) :
    RpC (cs.setIfInBounds (1 + x * 5 + y) v) gv (rows.set (x * 5 + y) (v, pcRow s (x : Int) (y : Int) ++ [n])) (rpOf (pcPay s (x : Int) (y : Int) n) P) := by
  have h2 : pcPay s (x : Int) (y : Int) n = { s with gold := s.gold.set (x : Int).toNat (pcG s (x : Int) - n), ways := mput s.ways ((x : Int), (y : Int)) (pcRow s (x : Int) (y : Int) ++ [n]) } := by
    unfold pcPay; rw [if_pos hE]
  rw [h2]
  refine (he.setWay hx hy v (pcRow s (x : Int) (y : Int) ++ [n])).congr _ (fun a b _ _ => ?_) rfl (fun m _ => rfl) (fun m _ => rfl) (fun a b _ _ => rfl) rfl (fun a b _ _ => rfl)
  show (if a = x ∧ b = y then pcRow s (x : Int) (y : Int) ++ [n] else pcRow s (a : Int) (b : Int)) = (mget (mput s.ways ((x : Int), (y : Int)) (pcRow s (x : Int) (y : Int) ++ [n])) ((a : Int), (b : Int))).getD []
  rw [row_put]
  by_cases e : a = x ∧ b = y
  · rw [if_pos e, if_pos (by omega)]
  · rw [if_neg e, if_neg (by omega)]; rfl
theorem PaI.pay {P : Nat → Nat → Int} {s : Pic} (hp : PaI P s) (a b n : Int) : PaI P (pcPay s a b n) := by
  unfold pcPay
  split
  · exact hp
  · exact hp
theorem rpOf_begun {s : Pic} {P : Nat → Nat → Int} {cs : Array Value} {gv : Value} {rows : List (Value × List Int)} (he : RpC cs gv rows (rpOf s P)) : RpC (cs.setIfInBounds 26 (.bool true)) gv rows (rpOf { s with begun := true } P) :=
  (he.setBegun true).congr _ (fun a b _ _ => rfl) rfl (fun m _ => rfl) (fun m _ => rfl) (fun a b _ _ => rfl) rfl (fun a b _ _ => rfl)
theorem PicOk.goldI {s : Pic} (h : PicOk s) : ∀ v ∈ s.gold, 0 ≤ v ∧ v ≤ 1000000 := fun v hv => by
  obtain ⟨i, hi, rfl⟩ := List.mem_iff_getElem.1 hv
  have h9 := h.gold (i : Int)
  unfold pcG gAt at h9
  rw [if_pos (by omega), Int.toNat_natCast, List.getD_eq_getElem?_getD, List.getElem?_eq_getElem hi] at h9
  exact h9
theorem pay_errs (s : Pic) (a b n : Int) :
    (pcWay s a b ≠ 0 ∧ pcPayErr s a b n = pcWay s a b) ∨ (pcWay s a b = 0 ∧ (n < 1 ∨ (¬ n < 1 ∧ 1000 < n)) ∧ pcPayErr s a b n = 1) ∨ (pcWay s a b = 0 ∧ ¬ n < 1 ∧ ¬ 1000 < n ∧ pcG s a < n ∧ pcPayErr s a b n = 5) ∨
    (pcWay s a b = 0 ∧ ¬ n < 1 ∧ ¬ 1000 < n ∧ ¬ pcG s a < n ∧ 40 ≤ (pcRow s a b).length ∧ pcPayErr s a b n = 4) ∨ (pcWay s a b = 0 ∧ ¬ n < 1 ∧ ¬ 1000 < n ∧ ¬ pcG s a < n ∧ ¬ 40 ≤ (pcRow s a b).length ∧ pcPayErr s a b n = 0) := by
  unfold pcPayErr
  by_cases h1 : pcWay s a b = 0
  rotate_left
  · exact .inl ⟨h1, by rw [if_pos h1]⟩
  rw [if_neg (by simpa using h1)]
  by_cases h2 : n < 1 ∨ 1000 < n
  · exact .inr (.inl ⟨h1, by omega, by rw [if_pos h2]⟩)
  rw [if_neg h2]
  by_cases h3 : pcG s a < n
  · exact .inr (.inr (.inl ⟨h1, by omega, by omega, h3, by rw [if_pos h3]⟩))
  rw [if_neg h3]
  by_cases h4 : 40 ≤ (pcRow s a b).length
  · exact .inr (.inr (.inr (.inl ⟨h1, by omega, by omega, h3, h4, by rw [if_pos h4]⟩)))
  · exact .inr (.inr (.inr (.inr ⟨h1, by omega, by omega, h3, h4, by rw [if_neg h4]⟩)))
theorem wayBd {s : Pic} {a b : Int} (h5 : s.gold.length ≤ 5) (h : pcWay s a b = 0) : ∃ x y : Nat, a = (x : Int) ∧ b = (y : Int) ∧ x < s.gold.length ∧ y < s.gold.length ∧ x < 5 ∧ y < 5 := by
  have hwy := pcWay0.1 h
  have hn : (pvOf s).n = s.gold.length := rfl
  refine ⟨a.toNat, b.toNat, ?_, ?_, ?_, ?_, ?_, ?_⟩
  · have := hwy.1.1; omega
  · have := hwy.2.1.1; omega
  · have := hwy.1; unfold PV.mem at this; omega
  · have := hwy.2.1; unfold PV.mem at this; omega
  · have := hwy.1; unfold PV.mem at this; omega
  · have := hwy.2.1; unfold PV.mem at this; omega
end Go.Proofs.YtpgonkecicmanaaDoor
