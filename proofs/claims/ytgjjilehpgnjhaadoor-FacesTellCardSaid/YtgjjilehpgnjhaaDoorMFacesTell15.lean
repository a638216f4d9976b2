/- errors.As at a number of api, and what plain.Told makes of an error: its number. (After the guide's Toyas example, at a target that is a number.) -/
import Derived.Test.YtgjjilehpgnjhaaDoorMFacesTell2
import Derived.LaidEql
import Derived.Stop.Asserts
import Derived.RowKitTokens
import Derived.Test.YtgjjilehpgnjhaaDoorRows
import Derived.ChangeSame
import Derived.ChangeVars
import Derived.JoinedOf
import Derived.LaidLaws
import Derived.LaidHandle
import Derived.Stop.Joined
import Derived.Test.YtgjjilehpgnjhaaDoorMFacesTell13
import Derived.Test.YtgjjilehpgnjhaaDoorMFacesTell14
namespace Go.Proofs.YtgjjilehpgnjhaaDoor
open Go.RowKit Go.Extern.Stop Go.Stop Go.Extern
set_option linter.unusedVariables false
namespace As
/-- The variable errors.errorType holds the handle of the type error. -/
def Handle (w : World) : Prop := w.cell? ⟨0, 0, none⟩ = some (.iface 142 (.agg #[.pointer (some ⟨5, 24, none⟩)]))
theorem valueOfT (t : Addr) (w : World) : (ReflectliteValue.unpack (.iface 99 (.pointer (some t)))).run Tryd.prog w
    = .ok (.agg #[.pointer (some ⟨5, 99, none⟩), .pointer (some ⟨w.heap.size, 0, none⟩), .int .u64 150]) (w.alloc (.cells #[.pointer (some t)] 99)) := by kernel_rfl
theorem typeT (a : Addr) (w : World) : (ReflectliteValue.methodAny (ReflectliteValue.valueError "reflectlite.Value.Type" 0) (fun t _ _ _ => ReflectliteType.toType t) #[.agg #[.pointer (some ⟨5, 99, none⟩), .pointer (some a), .int .u64 150]]).run Tryd.prog w
    = .ok (.iface 142 (.agg #[.pointer (some ⟨5, 99, none⟩)])) w := by kernel_rfl
theorem methodKind (h : Value) (w : World) : (Go.method 301 142 (.agg #[h]) "Kind").run Tryd.prog w = .ok (145, h) w := by kernel_rfl
theorem kindT (w : World) : ((ReflectliteType.abiMethod fun t => (fun a : Nat => Value.int IntKind.u8 (a : Int)) <$> Rtype.kind t) #[.pointer (some ⟨5, 99, none⟩)]).run Tryd.prog w = .ok (.int .u8 22) w := by kernel_rfl
theorem kindE (w : World) : ((ReflectliteType.abiMethod fun t => (fun a : Nat => Value.int IntKind.u8 (a : Int)) <$> Rtype.kind t) #[.pointer (some ⟨5, 75, none⟩)]).run Tryd.prog w = .ok (.int .u8 2) w := by kernel_rfl
theorem rlm (z : Sem Value) (f : TypeId → Addr → Nat → Nat → Sem Value) (v : Value) :
    ReflectliteValue.method z f #[v] = (do match ← ReflectliteValue.parts v with | none => z | some (t, a, fl) => f t a fl (fl % 32)) := rfl
theorem partsT (a : Addr) (w : World) : (ReflectliteValue.parts (.agg #[.pointer (some ⟨5, 99, none⟩), .pointer (some a), .int .u64 150])).run Tryd.prog w = .ok (some (99, a, 150)) w := by kernel_rfl
theorem isNilT (a p : Addr) (W : World) (ha : W.cell? a = some (.pointer (some p))) :
    (ReflectliteValue.method (ReflectliteValue.valueError "reflectlite.Value.IsNil" 0) ReflectliteValue.isNil #[.agg #[.pointer (some ⟨5, 99, none⟩), .pointer (some a), .int .u64 150]]).run Tryd.prog W = .ok (.bool false) W := by
  rw [rlm]
  simp only [Sem.run_bind, partsT, Result.andThen]
  simp [ReflectliteValue.isNil, loadVar, isAgg, underlying, Tryd.underlying99, ha, Result.andThen]
theorem methodElem (h : Value) (w : World) : (Go.method 301 142 (.agg #[h]) "Elem").run Tryd.prog w = .ok (155, .agg #[h]) w := by kernel_rfl
theorem methodImplements (h : Value) (w : World) : (Go.method 301 142 (.agg #[h]) "Implements").run Tryd.prog w = .ok (156, .agg #[h]) w := by kernel_rfl
theorem methodAssignableTo (h : Value) (w : World) : (Go.method 301 142 (.agg #[h]) "AssignableTo").run Tryd.prog w = .ok (153, .agg #[h]) w := by kernel_rfl
theorem elemT (w : World) : (ReflectliteType.method ReflectliteType.elem #[.agg #[.pointer (some ⟨5, 99, none⟩)]]).run Tryd.prog w = .ok (.iface 142 (.agg #[.pointer (some ⟨5, 75, none⟩)])) w := by kernel_rfl
theorem implementsE (w : World) : (ReflectliteType.relation "Implements" ReflectliteType.implements_ #[.agg #[.pointer (some ⟨5, 75, none⟩)], .iface 142 (.agg #[.pointer (some ⟨5, 24, none⟩)])]).run Tryd.prog w = .ok (.bool true) w := by kernel_rfl
theorem typeOfE (v : Value) (w : World) : (ReflectliteType.typeOf #[.iface 75 v]).run Tryd.prog w = .ok (.iface 142 (.agg #[.pointer (some ⟨5, 75, none⟩)])) w := by kernel_rfl
theorem assignableE (w : World) : (ReflectliteType.relation "AssignableTo" ReflectliteType.assignableTo #[.agg #[.pointer (some ⟨5, 75, none⟩)], .iface 142 (.agg #[.pointer (some ⟨5, 75, none⟩)])]).run Tryd.prog w = .ok (.bool true) w := by kernel_rfl
theorem valueOfE (n : Int) (w : World) : (ReflectliteValue.unpack (.iface 75 (.int .i64 n))).run Tryd.prog w
    = .ok (.agg #[.pointer (some ⟨5, 75, none⟩), .pointer (some ⟨w.heap.size, 0, none⟩), .int .u64 130]) (w.alloc (.cells #[.int .i64 n] 75)) := by kernel_rfl
theorem elemOfT (w : World) : (Rtype.elem? 99).run Tryd.prog w = .ok (some 75) w := by kernel_rfl
theorem mkE (p : Addr) (w : World) : (ReflectliteValue.mk 75 p ReflectliteValue.flagAddr).run Tryd.prog w = .ok (.agg #[.pointer (some ⟨5, 75, none⟩), .pointer (some p), .int .u64 386]) w := by kernel_rfl
theorem elemVT (a p : Addr) (W : World) (ha : W.cell? a = some (.pointer (some p))) :
    (ReflectliteValue.method (ReflectliteValue.valueError "reflectlite.Value.Elem" 0) ReflectliteValue.elem #[.agg #[.pointer (some ⟨5, 99, none⟩), .pointer (some a), .int .u64 150]]).run Tryd.prog W
      = .ok (.agg #[.pointer (some ⟨5, 75, none⟩), .pointer (some p), .int .u64 386]) W := by
  rw [rlm]
  simp only [Sem.run_bind, partsT, Result.andThen]
  simp [ReflectliteValue.elem, loadVar, isAgg, underlying, Tryd.underlying99, ha, Result.andThen, elemOfT, mkE]
theorem rls (v x : Value) : ReflectliteValue.set #[v, x] = (do
    let (some (dst, a, fl), some (src, b, _)) := (← ReflectliteValue.parts v, ← ReflectliteValue.parts x)
      | unsupported (.noEntry "extern/(internal/reflectlite.Value).Set.zeroValue")
    if fl / ReflectliteValue.flagAddr % 2 == 0 then unsupported (.noEntry "extern/(internal/reflectlite.Value).Set.unaddressable")
    let val ← loadVar src b
    if ← Rtype.directlyAssignable dst src then storeVar dst a val
    else if ← Rtype.implements dst src then
      if (← Rtype.kind src) == 20 then
        match val with
        | .nilIface => unsupported (.noEntry "extern/reflectlite: a nil value of one interface type handed on as a value of another")
        | _ => storeVar dst a val
      else storeVar dst a (.iface src val)
    else panicString ("reflectlite.Set: value of type " ++ (← Rtype.spelt src) ++ " is not assignable to type " ++ (← Rtype.spelt dst))
    pure (.tuple #[])) := rfl
theorem partsEa (a : Addr) (w : World) : (ReflectliteValue.parts (.agg #[.pointer (some ⟨5, 75, none⟩), .pointer (some a), .int .u64 386])).run Tryd.prog w = .ok (some (75, a, 386)) w := by kernel_rfl
theorem partsE (a : Addr) (w : World) : (ReflectliteValue.parts (.agg #[.pointer (some ⟨5, 75, none⟩), .pointer (some a), .int .u64 130])).run Tryd.prog w = .ok (some (75, a, 130)) w := by kernel_rfl
theorem directE (w : World) : (Rtype.directlyAssignable 75 75).run Tryd.prog w = .ok true w := by kernel_rfl
theorem sizeE (w : World) : (sizeOf 75).run Tryd.prog w = .ok 1 w := by kernel_rfl
theorem setE (ta b : Addr) (n : Int) (old : Value) (W : World) (hb : W.cell? b = some (.int .i64 n)) (ht : W.cell? ta = some old) (hf : W.frozen? ta = false) :
    (ReflectliteValue.set #[.agg #[.pointer (some ⟨5, 75, none⟩), .pointer (some ta), .int .u64 386], .agg #[.pointer (some ⟨5, 75, none⟩), .pointer (some b), .int .u64 130]]).run Tryd.prog W
      = .ok (.tuple #[]) (W.setCell ta (.int .i64 n)) := by
  rw [rls]
  simp only [Sem.run_bind, partsEa, partsE, Result.andThen]
  simp [ReflectliteValue.flagAddr, loadVar, isAgg, underlying, Tryd.underlying75, hb, Result.andThen, directE, storeVar, Value.cells, storeCells, Addr.add]
  rw [run_store Tryd.prog W ta _ _ (by rfl)]
  simp [ht, hf]
set_option maxHeartbeats 4000000 in
theorem as_hit (n : Int) (t : Addr) (old : Value) (w : World) (hg : Handle w) (ht0 : w.cell? t = some old) (hf0 : w.frozen? t = false) :
    Calls Tryd.prog 64 #[.iface 75 (.int .i64 n), .iface 99 (.pointer (some t))] w fun ev w' => ev = .returned (.bool true) ∧ w' = ((((w.alloc (.cells #[.pointer (some t)] 99)).alloc (.cells #[.pointer (some ⟨5, 99, none⟩), .pointer (some ⟨w.heap.size, 0, none⟩), .int .u64 150] 116)).alloc (.cells #[.pointer (some ⟨5, 99, none⟩), .pointer (some ⟨w.heap.size, 0, none⟩), .int .u64 150] 116)).alloc (.cells #[.int .i64 n] 75)).setCell t (.int .i64 n) := by
  have hg : w.cell? ⟨0, 0, none⟩ = some (.iface 142 (.agg #[.pointer (some ⟨5, 24, none⟩)])) := hg
  have h6 := @run_callFunc_extern Tryd.prog 88 _ (fun args => ReflectliteValue.unpack (args.getD 0 (.tuple #[]))) Tryd.func88 (by kernel_rfl) (by kernel_rfl) (by kernel_rfl) (by kernel_rfl)
  have h7 := @run_callFunc_extern Tryd.prog 89 _ (ReflectliteValue.methodAny (ReflectliteValue.valueError "reflectlite.Value.Type" 0) (fun t _ _ _ => ReflectliteType.toType t)) Tryd.func89 (by kernel_rfl) (by kernel_rfl) (by kernel_rfl) (by kernel_rfl)
  have h8 := @run_callFunc_extern Tryd.prog 90 _ (ReflectliteValue.method (ReflectliteValue.valueError "reflectlite.Value.IsNil" 0) ReflectliteValue.isNil) Tryd.func90 (by kernel_rfl) (by kernel_rfl) (by kernel_rfl) (by kernel_rfl)
  have h27 := @run_callFunc_extern Tryd.prog 145 _ (ReflectliteType.abiMethod fun t => do pure (.int .u8 (← Rtype.kind t))) Tryd.func145 (by kernel_rfl) (by kernel_rfl) (by kernel_rfl) (by kernel_rfl)
  have h37 := @run_callFunc_extern Tryd.prog 155 _ (ReflectliteType.method ReflectliteType.elem) Tryd.func155 (by kernel_rfl) (by kernel_rfl) (by kernel_rfl) (by kernel_rfl)
  have h38 := @run_callFunc_extern Tryd.prog 156 _ (ReflectliteType.relation "Implements" ReflectliteType.implements_) Tryd.func156 (by kernel_rfl) (by kernel_rfl) (by kernel_rfl) (by kernel_rfl)
  have h10 := @run_callFunc_extern Tryd.prog 106 _ ReflectliteType.typeOf Tryd.func106 (by kernel_rfl) (by kernel_rfl) (by kernel_rfl) (by kernel_rfl)
  have h35 := @run_callFunc_extern Tryd.prog 153 _ (ReflectliteType.relation "AssignableTo" ReflectliteType.assignableTo) Tryd.func153 (by kernel_rfl) (by kernel_rfl) (by kernel_rfl) (by kernel_rfl)
  have h11 := @run_callFunc_extern Tryd.prog 107 _ (ReflectliteValue.method (ReflectliteValue.valueError "reflectlite.Value.Elem" 0) ReflectliteValue.elem) Tryd.func107 (by kernel_rfl) (by kernel_rfl) (by kernel_rfl) (by kernel_rfl)
  have h12 := @run_callFunc_extern Tryd.prog 108 _ ReflectliteValue.set Tryd.func108 (by kernel_rfl) (by kernel_rfl) (by kernel_rfl) (by kernel_rfl)
  have tO := typeOfE
  have mA := methodAssignableTo
  have a25 := assignableE
  have v25 := valueOfE
  have f6 := valueOfT
  have f7 := typeT
  have mK := methodKind
  have mE := methodElem
  have mI := methodImplements
  have k27 := kindT
  have k25 := kindE
  have e27 := elemT
  have i25 := implementsE
  have n8 := isNilT ⟨w.heap.size, 0, none⟩ t ((w.alloc (.cells #[.pointer (some t)] 99)).alloc (.cells #[.pointer (some ⟨5, 99, none⟩), .pointer (some ⟨w.heap.size, 0, none⟩), .int .u64 150] 116)) (by simp)
  have hlt : 0 < w.heap.size := by
    rcases Nat.eq_zero_or_pos w.heap.size with h0 | h
    · simp [World.cell?, h0] at hg
    · exact h
  have hg2 : ((w.alloc (.cells #[.pointer (some t)] 99)).alloc (.cells #[.pointer (some ⟨5, 99, none⟩), .pointer (some ⟨w.heap.size, 0, none⟩), .int .u64 150] 116)).cell? ⟨0, 0, none⟩ = some (.iface 142 (.agg #[.pointer (some ⟨5, 24, none⟩)])) := by
    rw [World.cell?_alloc_lt _ _ ⟨0, 0, none⟩ (by simp), World.cell?_alloc_lt _ _ ⟨0, 0, none⟩ hlt]; exact hg
  have htl : t.block < w.heap.size := by
    rcases Nat.lt_or_ge t.block w.heap.size with h | h
    · exact h
    · simp [World.cell?, Array.getElem?_eq_none h] at ht0
  have el := elemVT ⟨w.heap.size, 0, none⟩ t (((w.alloc (.cells #[.pointer (some t)] 99)).alloc (.cells #[.pointer (some ⟨5, 99, none⟩), .pointer (some ⟨w.heap.size, 0, none⟩), .int .u64 150] 116)).alloc (.cells #[.pointer (some ⟨5, 99, none⟩), .pointer (some ⟨w.heap.size, 0, none⟩), .int .u64 150] 116)) (by rw [World.cell?_alloc_lt _ _ ⟨w.heap.size, 0, none⟩ (by simp; omega)]; simp)
  have st := setE t ⟨w.heap.size + 1 + 1 + 1, 0, none⟩ n old ((((w.alloc (.cells #[.pointer (some t)] 99)).alloc (.cells #[.pointer (some ⟨5, 99, none⟩), .pointer (some ⟨w.heap.size, 0, none⟩), .int .u64 150] 116)).alloc (.cells #[.pointer (some ⟨5, 99, none⟩), .pointer (some ⟨w.heap.size, 0, none⟩), .int .u64 150] 116)).alloc (.cells #[.int .i64 n] 75))
    (by rw [World.cell?_alloc_at _ _ _ _ (by simp)]; rfl)
    (by rw [World.cell?_alloc_lt _ _ t (by simp; omega), World.cell?_alloc_lt _ _ t (by simp; omega), World.cell?_alloc_lt _ _ t (by simp; omega), World.cell?_alloc_lt _ _ t htl]; exact ht0)
    (by rw [World.frozen?_alloc_old _ _ t (by simp; omega), World.frozen?_alloc_old _ _ t (by simp; omega), World.frozen?_alloc_old _ _ t (by simp; omega), World.frozen?_alloc_old _ _ t (Nat.ne_of_lt htl)]; exact hf0)
  go_enter Tryd.func64, Tryd.ntmps64
  go_wp2
  refine wp_loop_rounds 1 ?_
  rw [rounds_succ]
  go_wp2
  go_ret
  exact ⟨rfl, rfl⟩
end As
end Go.Proofs.YtgjjilehpgnjhaaDoor
/- What plain.Told makes of an error: its number. -/
namespace Go.Proofs.YtgjjilehpgnjhaaDoor
open Go.RowKit
set_option linter.unusedVariables false
/-- What plain.Told makes of an error. -/
theorem tell_any {w0 w : World} {R : HProp} (hg : As.Handle w0) (n : Nat) (h : Own w0 R w) :
    Calls Tryd.prog 42 #[errV n] w fun e w' => e = .returned (.int .i64 n) ∧ Own w0 R w' := by
  have HH := Lib.hid h
  cases n with
  | zero =>
    rw [errV0]
    go_enter Tryd.func42, Tryd.ntmps42
    go_wp2
    go_ret
    exact ⟨rfl, HH.out⟩
  | succ n =>
    rw [show errV (n + 1) = .iface 75 (.int .i64 ((n : Int) + 1)) from rfl]
    have hlt : (⟨0, 0, none⟩ : Addr).block < w0.heap.size := World.block_lt_of_cell? _ _ hg
    have hw : As.Handle w := by unfold As.Handle; rw [h.below.cell (p := ⟨0, 0, none⟩) hlt]; exact hg
    have hlw : (⟨0, 0, none⟩ : Addr).block < w.heap.size := World.block_lt_of_cell? _ _ hw
    have hw1 : As.Handle (w.alloc (.cells #[.int .i64 0] 75)) := by unfold As.Handle; rw [World.cell?_alloc_lt _ _ _ hlw]; exact hw
    have HW1 := Lib.hid hw1
    have g1 := (h.alloc (.cells #[.int .i64 0] 75))
    have HC := Lib.hid (g1.cell 0); have HF := Lib.hid (g1.free 0 none)
    clear hw hw1 hlw hlt h g1 hg
    go_enter Tryd.func42, Tryd.ntmps42
    go_wp2_with fail
    refine (As.as_hit _ ⟨w.heap.size, 0, none⟩ (.int .i64 0) _ HW1.out HC.out HF.out).mono ?_
    rintro e w' ⟨rfl, rfl⟩
    go_wp2
    go_ret
    exact ⟨by simp, ((((HH.out.alloc' _).alloc' _).alloc' _).alloc' _).alloc' _⟩
/-- Is an error the one told? -/
theorem sameErr_any {w0 w : World} {R : HProp} (hg : As.Handle w0) (n : Nat) (m : Int) (h : Own w0 R w) :
    Calls Tryd.prog 11 #[errV n, .int .i64 m] w fun e w' => e = .returned (.bool ((n : Int) == m)) ∧ Own w0 R w' := by
  have T := Lib.hid (tell_any hg n h)
  clear hg h
  go_enter Tryd.func11, Tryd.ntmps11
  go_wp2_with fail
  refine (T.out).mono ?_
  rintro e w' ⟨rfl, ho⟩
  have HO := Lib.hid ho
  clear ho
  go_wp2
  go_ret
  exact ⟨rfl, HO.out⟩
end Go.Proofs.YtgjjilehpgnjhaaDoor
/- The package-level variable errors.errorType as the rows list it: what a walk has of it; a world that meets it. (After the guide's Toyas example.) -/
namespace Go.Proofs.YtgjjilehpgnjhaaDoor
set_option linter.unusedVariables false
set_option linter.unusedSimpArgs false
open Go.ChangeShapes Go.WideShapes Go.RowKit
theorem errt : Tryd.prog.globalNamed "errors.errorType" = some 0 := by kernel_rfl
theorem rtt : (Tryd.prog.cutTypes.find? (·.1 == "internal/reflectlite.rtype")).map (·.2) = some 142 := by kernel_rfl
theorem oneRow : ((List.range 201).filter fun t => Tryd.prog.rowNamed t [101, 114, 114, 111, 114]) = [24] := by kernel_rfl
theorem typesSize : Tryd.prog.types.size = 201 := by kernel_rfl
def theLaid : List (String × DataW Unit) := [("errors.errorType", Rows.laid_errors_errorType)]
theorem handle_of_laid {W : World} (h : laidMetH Tryd.prog theLaid W) : As.Handle W := by
  have h' : laidMet Tryd.prog [] W ∧ handlesMet Tryd.prog theLaid W := h
  obtain ⟨name, u, ty, e1, e2, e3, e4, e5⟩ := h'.2 _ (List.mem_singleton.2 rfl)
  have en : name = [101, 114, 114, 111, 114] := (Option.some.inj e1).symm
  subst en
  obtain rfl := Option.some.inj (rtt.symm.trans e2)
  have hm : ty ∈ (List.range 201).filter fun t => Tryd.prog.rowNamed t [101, 114, 114, 111, 114] := List.mem_filter.2 ⟨List.mem_range.2 (by rw [← typesSize]; exact e3), e4⟩
  rw [oneRow] at hm
  obtain rfl := List.mem_singleton.1 hm
  have hh : typeHandle Tryd.prog 24 = .pointer (some ⟨5, 24, none⟩) := by kernel_rfl
  rw [hh] at e5
  unfold As.Handle
  simpa using World.var?_cell errt e5 0
def laidWorld (P : Program) (os : Os) : World :=
  { World.holding P os ⟨#[], #[], []⟩ with heap := (World.holding P os ⟨#[], #[], []⟩).heap.setIfInBounds 0 (.cells #[.iface 142 (.agg #[.pointer (some ⟨5, 24, none⟩)])] 119 (0, 0)) }
theorem laidWorld_met (os : Os) (args : Array Value) : laidMetH Tryd.prog theLaid ((laidWorld Tryd.prog os).forCall (fun _ _ => 0) ⟨#[], args, []⟩).memory :=
  laidMetH_of_parts (laidMet_nil _ _) (by kernel_rfl)
end Go.Proofs.YtgjjilehpgnjhaaDoor
/- FacesTell: the program's faces and the reference's tell the same. -/
namespace Go.Proofs.YtgjjilehpgnjhaaDoor
set_option linter.unusedVariables false
set_option linter.unusedSimpArgs false
open Go.RowKit
theorem ft_same (n : Nat) : ((n : Int) == (n : Int)) = true := by simp
theorem ft_zero (n : Nat) : (((n : Int) == 0) = decide (n = 0)) := by
  by_cases h : n = 0
  · subst h; rfl
  · rw [decide_eq_false h, beq_eq_false_iff_ne]; omega
theorem heardErr_cases (hs : List Ev) (who : Int) : ((histR hs).2 ≠ 0 ∧ heardErr hs who = (histR hs).2) ∨ ((histR hs).2 = 0 ∧ (who < 0 ∨ 4 < who) ∧ heardErr hs who = 1) ∨ ((histR hs).2 = 0 ∧ (0 ≤ who ∧ who ≤ 4) ∧ heardErr hs who = 0) := by
  unfold heardErr
  by_cases h0 : (histR hs).2 = 0
  · rw [if_neg (by simpa using h0)]
    by_cases h1 : 0 ≤ who ∧ who ≤ 4
    · exact .inr (.inr ⟨h0, h1, by rw [if_neg]; unfold isMember; simp; omega⟩)
    · exact .inr (.inl ⟨h0, by omega, by rw [if_pos]; unfold isMember; simp; omega⟩)
  · exact .inl ⟨h0, by rw [if_pos h0]⟩
set_option maxRecDepth 100000 in
set_option maxHeartbeats 4000000 in
theorem facesTell_law (w : World) (hg : As.Handle w) (vh : Value) (hs : List Ev) (hvh : Evs w vh hs) (who : Int) (hwho : I64 who) :
    Calls Tryd.prog 6 #[vh, .int .i64 who] w fun e w' => e = .returned (.bool true) ∧ Below w.heap.size w w' := by
  obtain ⟨had, hcap, rfl, hc1, hc2⟩ := hvh.shape
  have HW0 := Lib.hid (Own.start w)
  have hV : ∀ R', ReadsE w R' (.slice had hs.length hcap) hs := fun R' => hvh.reads
  have hgd := hvh.2
  have hhc := heardErr_cases hs who
  obtain ⟨E, hE⟩ : ∃ E, E = (histR hs).2 := ⟨_, rfl⟩
  obtain ⟨F, hF⟩ : ∃ E, E = facesF hs := ⟨_, rfl⟩
  obtain ⟨C, hC⟩ : ∃ E, E = facesC hs := ⟨_, rfl⟩
  obtain ⟨T, hT⟩ : ∃ E, E = facesT hs := ⟨_, rfl⟩
  obtain ⟨G, hGq⟩ : ∃ E, E = heardErr hs who := ⟨_, rfl⟩
  obtain ⟨L, hL⟩ : ∃ E, E = heardE hs who := ⟨_, rfl⟩
  obtain ⟨n, hn⟩ : ∃ n, n = hs.length := ⟨_, rfl⟩
  rw [← hE, ← hGq] at hhc
  rw [← hn] at hc1 hV hvh ⊢
  have hLI : ∀ x ∈ L, I64 x := by
    rw [hL]
    unfold heardE
    split
    · exact heardL_I64 hgd who
    · intro x hx; cases hx
  obtain ⟨P0, hP0⟩ : ∃ P, P = decide (E = 0) := ⟨_, rfl⟩
  have t0 : ((E : Int) == 0) = P0 := by rw [ft_zero, hP0]
  have tE := ft_same E
  have tG := ft_same G
  obtain ⟨wb, hb_wb⟩ : ∃ zz_, zz_ = (w).heap.size := ⟨_, rfl⟩
  obtain ⟨w1, hw_w1⟩ : ∃ zz_, zz_ = (w).alloc (.cells #[.bool false, .bool false, .bool false] 56) := ⟨_, rfl⟩
  have h_H1 := (HW0.out).alloc (.cells #[.bool false, .bool false, .bool false] 56)
  rw [← hb_wb, ← hw_w1] at h_H1
  have H1 := Lib.hid h_H1
  clear h_H1
  have HG := Lib.hid hg; have HVH := Lib.hid hvh; have HV := Lib.hid hV; have HGD := Lib.hid hgd; have HHC := Lib.hid hhc; have HE := Lib.hid hE; have HF := Lib.hid hF; have HC := Lib.hid hC; have HT := Lib.hid hT; have HGQ := Lib.hid hGq; have HL := Lib.hid hL; have HN := Lib.hid hn; have HLI := Lib.hid hLI; have HP0 := Lib.hid hP0
  clear hg hvh hV hgd hhc hE hF hC hT hGq hL hn hLI hP0
  go_enter Tryd.func6, Tryd.ntmps6
  go_wp2_with fail
  refine (refRight_any _ hs HW0.out (HV.out _)).mono ?_
  rintro e w2 ⟨rfl, ho⟩
  rw [← HE.out]
  have HO2 := Lib.hid ho
  clear ho hb_wb hw_w1 H1 w1 wb
  obtain ⟨wb, hb_wb⟩ : ∃ zz_, zz_ = (w2).heap.size := ⟨_, rfl⟩
  obtain ⟨w3, hw_w3⟩ : ∃ zz_, zz_ = (w2).alloc (.cells #[.bool false, .bool false, .bool false] 56) := ⟨_, rfl⟩
  have h_H3 := (HO2.out).alloc (.cells #[.bool false, .bool false, .bool false] 56)
  rw [← hb_wb, ← hw_w3] at h_H3
  have H3 := Lib.hid h_H3
  clear h_H3
  have HO3 : Hid (Own w (FaO wb false false false * emp) w3) := H3
  obtain ⟨f0, f1, f2, f3⟩ := HO3.out.fa
  clear H3 HO2
  go_upto_if 16 with fail
  rw [← hb_wb, ← hw_w3]
  clear hb_wb hw_w3
  go_cut [] (fun wx => Own w (FaO wb F C T * emp) wx)
  case first =>
    cases P0
    · have h0 : E ≠ 0 := by have := HP0.out; intro h; rw [h] at this; cases this
      have hf : facesErr hs ≠ 0 := by unfold facesErr; rw [← HE.out]; exact h0
      have q1 : F = false := by rw [HF.out]; unfold facesF; rw [decide_eq_false hf]; rfl
      have q2 : C = false := by rw [HC.out]; unfold facesC; rw [decide_eq_false hf]; rfl
      have q3 : T = false := by rw [HT.out]; unfold facesT; rw [decide_eq_false hf]; rfl
      have H0 := Lib.hid h0; have HF := Lib.hid hf; have Q1 := Lib.hid q1; have Q2 := Lib.hid q2; have Q3 := Lib.hid q3
      clear h0 hf q1 q2 q3
      go_wp2_with fail
      go_meet
      rw [Q1.out, Q2.out, Q3.out]
      exact HO3.out
    · have h0 : E = 0 := by have := HP0.out; simpa using this.symm
      have hf : facesErr hs = 0 := by unfold facesErr; rw [← HE.out]; exact h0
      have hrt : RightH hs := (histR_ok hs).1 hf
      have q1 : fifoB hs = F := by rw [HF.out]; unfold facesF; rw [decide_eq_true hf]; simp
      have q2 : causalB hs = C := by rw [HC.out]; unfold facesC; rw [decide_eq_true hf]; simp
      have q3 : totalB hs = T := by rw [HT.out]; unfold facesT; rw [decide_eq_true hf]; simp
      have H0 := Lib.hid h0; have HF := Lib.hid hf; have Q1 := Lib.hid q1; have Q2 := Lib.hid q2; have Q3 := Lib.hid q3; have HRT := Lib.hid hrt
      clear h0 hf q1 q2 q3 hrt
      go_wp2_with fail
      refine (refFaces_any _ hs HO3.out (HV.out _) HRT.out).mono ?_
      rintro e w4 ⟨rfl, ho⟩
      rw [Q1.out, Q2.out, Q3.out]
      clear f0 f1 f2 f3
      obtain ⟨f0, f1, f2, f3⟩ := Own.fa ho
      have HX := Lib.hid (((ho.fa0 F).fa1 C).fa2 T)
      clear ho
      go_wp2_with fail
      go_meet
      exact HX.out
  case rest =>
  have HO4 := Lib.hid hcut
  clear hcut HO3 f0 f1 f2 f3
  go_wp2_with fail
  refine (facesOf_any _ hs HO4.out (HV.out _)).mono ?_
  rintro e w5 ⟨rfl, ho⟩
  rw [← HF.out, ← HC.out, ← HT.out, show facesErr hs = E from HE.out.symm]
  have HO5 := Lib.hid ho
  clear ho HO4
  obtain ⟨gb, hb_gb⟩ : ∃ zz_, zz_ = (w5).heap.size := ⟨_, rfl⟩
  obtain ⟨w6, hw_w6⟩ : ∃ zz_, zz_ = (w5).alloc (.cells #[.bool F, .bool C, .bool T] 56) := ⟨_, rfl⟩
  have h_H6 := (HO5.out).alloc (.cells #[.bool F, .bool C, .bool T] 56)
  rw [← hb_gb, ← hw_w6] at h_H6
  have H6 := Lib.hid h_H6
  clear h_H6
  have HO6 : Hid (Own w (FaO gb F C T * (FaO wb F C T * emp)) w6) := H6
  clear H6 HO5
  go_upto_region 7 with fail
  rw [← hb_gb, ← hw_w6]
  clear hb_gb hw_w6
  go_wp2_with fail
  refine (sameErr_any HG.out E E HO6.out).mono ?_
  rintro e w7 ⟨rfl, ho⟩
  rw [tE]
  obtain ⟨f0, f1, f2, f3⟩ := ho.fa
  obtain ⟨g0, g1, g2, g3⟩ := (ho.perm (star_left_comm _ _ _)).fa
  have HO7 := Lib.hid ho.drop.drop
  clear ho HO6
  obtain ⟨X, hX⟩ : ∃ X, X = (P0 && !decide (G = 0)) := ⟨_, rfl⟩
  have HX := Lib.hid hX
  clear hX
  go_upto_region 8 with fail
  clear f0 f1 f2 f3 g0 g1 g2 g3
  go_cut [41] (fun c wx => c = .bool X ∧ wx = w7)
  case first =>
    rcases HHC.out with ⟨h1, _⟩ | ⟨h1, h2, h3⟩ | ⟨h1, ⟨h2, h3⟩, h6⟩
    · have hp : P0 = false := by rw [HP0.out]; simp [h1]
      have hc : X = false := by rw [HX.out, hp]; rfl
      subst hp
      have HCC := Lib.hid hc
      clear hc
      have H1 := Lib.hid h1
      clear h1
      go_wp2_with fail
      go_meet
      exact ⟨by rw [HCC.out], rfl⟩
    · have hp : P0 = true := by rw [HP0.out]; simp [h1]
      have hc : X = true := by rw [HX.out, hp, h3]; rfl
      have hcs : who < 0 ∨ (¬ who < 0 ∧ 4 < who) := by omega
      subst hp
      have HCC := Lib.hid hc
      clear hc h2
      have H1 := Lib.hid h1; have H3 := Lib.hid h3
      clear h1 h3
      rcases hcs with h1 | ⟨h1, h2⟩
      all_goals
        go_wp2_with fail
        go_meet
        exact ⟨by rw [HCC.out], rfl⟩
    · have hp : P0 = true := by rw [HP0.out]; simp [h1]
      have hc : X = false := by rw [HX.out, hp, h6]; rfl
      have n1 : ¬ who < 0 := by omega
      have n2 : ¬ 4 < who := by omega
      subst hp
      have HCC := Lib.hid hc
      clear hc
      have H1 := Lib.hid h1; have H6 := Lib.hid h6
      clear h1 h6
      go_wp2_with fail
      go_meet
      exact ⟨by rw [HCC.out], rfl⟩
  case rest =>
  obtain ⟨rfl, rfl⟩ := hcut
  go_upto_if 41 with fail
  go_cut [5, 7] (fun f v wx => f = .int .i64 (G : Int) ∧ Own w (IntSl v L * emp) wx)
  case first =>
    have HNL := Lib.hid (HO7.out.sl_nil 3 1)
    cases X
    rotate_left
    · have h1 : G = 1 ∧ L = [] := by
        have h2 := HX.out
        rcases HHC.out with ⟨h1, h3⟩ | ⟨h1, _, h3⟩ | ⟨h1, _, h3⟩
        · rw [HP0.out, decide_eq_false h1] at h2; cases h2
        · exact ⟨h3, by rw [HL.out]; unfold heardE; rw [← HGQ.out, h3]; rfl⟩
        · rw [HP0.out, h1, h3] at h2; cases h2
      obtain ⟨h1, h2⟩ := h1
      have H1 := Lib.hid h1; have H2 := Lib.hid h2
      clear h1 h2
      go_wp2_with fail
      go_meet
      exact ⟨by rw [H1.out]; rfl, by rw [H2.out]; exact HNL.out⟩
    · have hq := HX.out
      cases P0
      · have h0 : E ≠ 0 := by have := HP0.out; intro h; rw [h] at this; cases this
        have h1 : G = E := by
          rcases HHC.out with ⟨_, h3⟩ | ⟨h1, _, h3⟩ | ⟨h1, _, h3⟩
          · exact h3
          · exact absurd h1 h0
          · exact absurd h1 h0
        have h2 : L = [] := by rw [HL.out]; unfold heardE; rw [← HGQ.out, h1, if_neg h0]
        have H0 := Lib.hid h0; have H1 := Lib.hid h1; have H2 := Lib.hid h2; have HQ := Lib.hid hq
        clear h0 h1 h2 hq
        go_wp2_with fail
        go_meet
        exact ⟨by rw [H1.out], by rw [H2.out]; exact HNL.out⟩
      · have h0 : E = 0 := by have := HP0.out; simpa using this.symm
        have h1 : G = E := by
          rcases HHC.out with ⟨h1, _⟩ | ⟨h1, _, h3⟩ | ⟨h1, _, h3⟩
          · exact absurd h0 h1
          · rw [h3] at hq; cases hq
          · rw [h1, h3]
        have h2 : heardL hs who = L := by rw [HL.out]; unfold heardE; rw [← HGQ.out, h1, if_pos h0]
        have hlen : hs.length ≤ 60 := ((histR_ok hs).1 (by rw [← HE.out]; exact h0)).1
        have H0 := Lib.hid h0; have H1 := Lib.hid h1; have H2 := Lib.hid h2; have HQ := Lib.hid hq; have HLEN := Lib.hid hlen
        clear h0 h1 h2 hq hlen
        go_wp2_with fail
        refine (refHeard_any _ hs who HO7.out (HV.out _) HLEN.out).mono ?_
        rintro e w8 ⟨v8, rfl, ho⟩
        rw [H2.out] at ho
        have HO8 := Lib.hid ho
        clear ho
        go_wp2_with fail
        go_meet
        exact ⟨by rw [H1.out], HO8.out⟩
  case rest =>
  obtain ⟨rfl, ho⟩ := hcut
  have HO8 := Lib.hid ho
  clear ho HO7
  go_wp2_with fail
  refine (facesHeard_any _ hs who HO8.out (HV.out _)).mono ?_
  rintro e w9 ⟨v9, rfl, ho⟩
  rw [← HGQ.out]
  rw [← HL.out] at ho
  have HO9 := Lib.hid ho
  clear ho HO8
  go_wp2_with fail
  refine (sameErr_any HG.out G G HO9.out).mono ?_
  rintro e w10 ⟨rfl, ho⟩
  rw [tG]
  have HO10 := Lib.hid ho
  clear ho HO9
  go_wp2_with fail
  refine (sameInts_any v9 u7 L L _ (IntSl_reads HLI.out _ HO10.out) ((IntSl_reads HLI.out).more _ HO10.out)).mono ?_
  rintro e w11 ⟨rfl, nq, rfl⟩
  rw [show (L == L) = true from beq_iff_eq.2 rfl]
  have HO11 := Lib.hid (HO10.out.drewN nq)
  clear HO10
  go_wp2
  go_ret
  exact ⟨rfl, HO11.out.below⟩
end Go.Proofs.YtgjjilehpgnjhaaDoor
