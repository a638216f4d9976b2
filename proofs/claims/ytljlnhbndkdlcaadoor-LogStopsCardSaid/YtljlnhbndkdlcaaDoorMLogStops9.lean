/- errors.As at a number of api, and what plain.Told makes of an error: its number. (After the guide's Toyas example, at a target that is a number.) -/
import Derived.Test.YtljlnhbndkdlcaaDoorMLogStops2
import Derived.LaidEql
import Derived.Stop.Asserts
import Derived.RowKitTokens
import Derived.Test.YtljlnhbndkdlcaaDoorMLogStops6
import Derived.Test.YtljlnhbndkdlcaaDoorMLogStops5
import Derived.Test.YtljlnhbndkdlcaaDoorMLogStops8
import Derived.Test.YtljlnhbndkdlcaaDoorMLogStops0
import Derived.Test.YtljlnhbndkdlcaaDoorProg
import Derived.Lib.Itoa
import Derived.Lib.ItoaNum
import Derived.Lib.ItoaWalk
import Derived.Lib.LastIndexByte
import Derived.Lib.Bytealg
import Derived.Lib.Strings
import Derived.Lib.Walk
import Derived.Test.YtljlnhbndkdlcaaDoorMLogStops1
namespace Go.Proofs.YtljlnhbndkdlcaaDoor
open Go.RowKit Go.Extern.Stop Go.Stop Go.Extern
set_option linter.unusedVariables false
namespace As
/-- The variable errors.errorType holds the handle of the type error. -/
def Handle (w : World) : Prop := w.cell? ⟨0, 0, none⟩ = some (.iface 135 (.agg #[.pointer (some ⟨5, 25, none⟩)]))
theorem valueOfT (t : Addr) (w : World) : (ReflectliteValue.unpack (.iface 83 (.pointer (some t)))).run Tryd.prog w
    = .ok (.agg #[.pointer (some ⟨5, 83, none⟩), .pointer (some ⟨w.heap.size, 0, none⟩), .int .u64 150]) (w.alloc (.cells #[.pointer (some t)] 83)) := by kernel_rfl
theorem typeT (a : Addr) (w : World) : (ReflectliteValue.methodAny (ReflectliteValue.valueError "reflectlite.Value.Type" 0) (fun t _ _ _ => ReflectliteType.toType t) #[.agg #[.pointer (some ⟨5, 83, none⟩), .pointer (some a), .int .u64 150]]).run Tryd.prog w
    = .ok (.iface 135 (.agg #[.pointer (some ⟨5, 83, none⟩)])) w := by kernel_rfl
theorem methodKind (h : Value) (w : World) : (Go.method 289 135 (.agg #[h]) "Kind").run Tryd.prog w = .ok (132, h) w := by kernel_rfl
theorem kindT (w : World) : ((ReflectliteType.abiMethod fun t => (fun a : Nat => Value.int IntKind.u8 (a : Int)) <$> Rtype.kind t) #[.pointer (some ⟨5, 83, none⟩)]).run Tryd.prog w = .ok (.int .u8 22) w := by kernel_rfl
theorem kindE (w : World) : ((ReflectliteType.abiMethod fun t => (fun a : Nat => Value.int IntKind.u8 (a : Int)) <$> Rtype.kind t) #[.pointer (some ⟨5, 61, none⟩)]).run Tryd.prog w = .ok (.int .u8 2) w := by kernel_rfl
theorem rlm (z : Sem Value) (f : TypeId → Addr → Nat → Nat → Sem Value) (v : Value) :
    ReflectliteValue.method z f #[v] = (do match ← ReflectliteValue.parts v with | none => z | some (t, a, fl) => f t a fl (fl % 32)) := rfl
theorem partsT (a : Addr) (w : World) : (ReflectliteValue.parts (.agg #[.pointer (some ⟨5, 83, none⟩), .pointer (some a), .int .u64 150])).run Tryd.prog w = .ok (some (83, a, 150)) w := by kernel_rfl
theorem isNilT (a p : Addr) (W : World) (ha : W.cell? a = some (.pointer (some p))) :
    (ReflectliteValue.method (ReflectliteValue.valueError "reflectlite.Value.IsNil" 0) ReflectliteValue.isNil #[.agg #[.pointer (some ⟨5, 83, none⟩), .pointer (some a), .int .u64 150]]).run Tryd.prog W = .ok (.bool false) W := by
  rw [rlm]
  simp only [Sem.run_bind, partsT, Result.andThen]
  simp [ReflectliteValue.isNil, loadVar, isAgg, underlying, Tryd.underlying83, ha, Result.andThen]
theorem methodElem (h : Value) (w : World) : (Go.method 289 135 (.agg #[h]) "Elem").run Tryd.prog w = .ok (142, .agg #[h]) w := by kernel_rfl
theorem methodImplements (h : Value) (w : World) : (Go.method 289 135 (.agg #[h]) "Implements").run Tryd.prog w = .ok (143, .agg #[h]) w := by kernel_rfl
theorem methodAssignableTo (h : Value) (w : World) : (Go.method 289 135 (.agg #[h]) "AssignableTo").run Tryd.prog w = .ok (140, .agg #[h]) w := by kernel_rfl
theorem elemT (w : World) : (ReflectliteType.method ReflectliteType.elem #[.agg #[.pointer (some ⟨5, 83, none⟩)]]).run Tryd.prog w = .ok (.iface 135 (.agg #[.pointer (some ⟨5, 61, none⟩)])) w := by kernel_rfl
theorem implementsE (w : World) : (ReflectliteType.relation "Implements" ReflectliteType.implements_ #[.agg #[.pointer (some ⟨5, 61, none⟩)], .iface 135 (.agg #[.pointer (some ⟨5, 25, none⟩)])]).run Tryd.prog w = .ok (.bool true) w := by kernel_rfl
theorem typeOfE (v : Value) (w : World) : (ReflectliteType.typeOf #[.iface 61 v]).run Tryd.prog w = .ok (.iface 135 (.agg #[.pointer (some ⟨5, 61, none⟩)])) w := by kernel_rfl
theorem assignableE (w : World) : (ReflectliteType.relation "AssignableTo" ReflectliteType.assignableTo #[.agg #[.pointer (some ⟨5, 61, none⟩)], .iface 135 (.agg #[.pointer (some ⟨5, 61, none⟩)])]).run Tryd.prog w = .ok (.bool true) w := by kernel_rfl
theorem valueOfE (n : Int) (w : World) : (ReflectliteValue.unpack (.iface 61 (.int .i64 n))).run Tryd.prog w
    = .ok (.agg #[.pointer (some ⟨5, 61, none⟩), .pointer (some ⟨w.heap.size, 0, none⟩), .int .u64 130]) (w.alloc (.cells #[.int .i64 n] 61)) := by kernel_rfl
theorem elemOfT (w : World) : (Rtype.elem? 83).run Tryd.prog w = .ok (some 61) w := by kernel_rfl
theorem mkE (p : Addr) (w : World) : (ReflectliteValue.mk 61 p ReflectliteValue.flagAddr).run Tryd.prog w = .ok (.agg #[.pointer (some ⟨5, 61, none⟩), .pointer (some p), .int .u64 386]) w := by kernel_rfl
theorem elemVT (a p : Addr) (W : World) (ha : W.cell? a = some (.pointer (some p))) :
    (ReflectliteValue.method (ReflectliteValue.valueError "reflectlite.Value.Elem" 0) ReflectliteValue.elem #[.agg #[.pointer (some ⟨5, 83, none⟩), .pointer (some a), .int .u64 150]]).run Tryd.prog W
      = .ok (.agg #[.pointer (some ⟨5, 61, none⟩), .pointer (some p), .int .u64 386]) W := by
  rw [rlm]
  simp only [Sem.run_bind, partsT, Result.andThen]
  simp [ReflectliteValue.elem, loadVar, isAgg, underlying, Tryd.underlying83, ha, Result.andThen, elemOfT, mkE]
theorem rls (v x : Value) : ReflectliteValue.set #[v, x] = (do
    let (some (dst, a, fl), some (src, b, _)) := (← ReflectliteValue.parts v, ← ReflectliteValue.parts x)
      | unsupported (.noEntry "extern/(internal/reflectlite.Value).Set.zeroValue")
    if fl / ReflectliteValue.flagAddr % 2 == 0 then unsupported (.noEntry "extern/(internal/reflectlite.Value).Set.unaddressable")
    let val ← loadVar src b
    if ← Rtype.directlyAssignable dst src then storeVar dst a val
    else if ← Rtype.implements dst src then
      if (← Rtype.kind src) == 20 then
        match val with
        | .nilIface => unsupported (.noEntry "extern/reflectlite: a nil value of one interface type handed on as a value of another")
        | _ => storeVar dst a val
      else storeVar dst a (.iface src val)
    else panicString ("reflectlite.Set: value of type " ++ (← Rtype.spelt src) ++ " is not assignable to type " ++ (← Rtype.spelt dst))
    pure (.tuple #[])) := rfl
theorem partsEa (a : Addr) (w : World) : (ReflectliteValue.parts (.agg #[.pointer (some ⟨5, 61, none⟩), .pointer (some a), .int .u64 386])).run Tryd.prog w = .ok (some (61, a, 386)) w := by kernel_rfl
theorem partsE (a : Addr) (w : World) : (ReflectliteValue.parts (.agg #[.pointer (some ⟨5, 61, none⟩), .pointer (some a), .int .u64 130])).run Tryd.prog w = .ok (some (61, a, 130)) w := by kernel_rfl
theorem directE (w : World) : (Rtype.directlyAssignable 61 61).run Tryd.prog w = .ok true w := by kernel_rfl
theorem sizeE (w : World) : (sizeOf 61).run Tryd.prog w = .ok 1 w := by kernel_rfl
theorem setE (ta b : Addr) (n : Int) (old : Value) (W : World) (hb : W.cell? b = some (.int .i64 n)) (ht : W.cell? ta = some old) (hf : W.frozen? ta = false) :
    (ReflectliteValue.set #[.agg #[.pointer (some ⟨5, 61, none⟩), .pointer (some ta), .int .u64 386], .agg #[.pointer (some ⟨5, 61, none⟩), .pointer (some b), .int .u64 130]]).run Tryd.prog W
      = .ok (.tuple #[]) (W.setCell ta (.int .i64 n)) := by
  rw [rls]
  simp only [Sem.run_bind, partsEa, partsE, Result.andThen]
  simp [ReflectliteValue.flagAddr, loadVar, isAgg, underlying, Tryd.underlying61, hb, Result.andThen, directE, storeVar, Value.cells, storeCells, Addr.add]
  rw [run_store Tryd.prog W ta _ _ (by rfl)]
  simp [ht, hf]
set_option maxHeartbeats 4000000 in
theorem as_hit (n : Int) (t : Addr) (old : Value) (w : World) (hg : Handle w) (ht0 : w.cell? t = some old) (hf0 : w.frozen? t = false) :
    Calls Tryd.prog 50 #[.iface 61 (.int .i64 n), .iface 83 (.pointer (some t))] w fun ev w' => ev = .returned (.bool true) ∧ w' = ((((w.alloc (.cells #[.pointer (some t)] 83)).alloc (.cells #[.pointer (some ⟨5, 83, none⟩), .pointer (some ⟨w.heap.size, 0, none⟩), .int .u64 150] 103)).alloc (.cells #[.pointer (some ⟨5, 83, none⟩), .pointer (some ⟨w.heap.size, 0, none⟩), .int .u64 150] 103)).alloc (.cells #[.int .i64 n] 61)).setCell t (.int .i64 n) := by
  have hg : w.cell? ⟨0, 0, none⟩ = some (.iface 135 (.agg #[.pointer (some ⟨5, 25, none⟩)])) := hg
  have h6 := @run_callFunc_extern Tryd.prog 71 _ (fun args => ReflectliteValue.unpack (args.getD 0 (.tuple #[]))) Tryd.func71 (by kernel_rfl) (by kernel_rfl) (by kernel_rfl) (by kernel_rfl)
  have h7 := @run_callFunc_extern Tryd.prog 72 _ (ReflectliteValue.methodAny (ReflectliteValue.valueError "reflectlite.Value.Type" 0) (fun t _ _ _ => ReflectliteType.toType t)) Tryd.func72 (by kernel_rfl) (by kernel_rfl) (by kernel_rfl) (by kernel_rfl)
  have h8 := @run_callFunc_extern Tryd.prog 73 _ (ReflectliteValue.method (ReflectliteValue.valueError "reflectlite.Value.IsNil" 0) ReflectliteValue.isNil) Tryd.func73 (by kernel_rfl) (by kernel_rfl) (by kernel_rfl) (by kernel_rfl)
  have h27 := @run_callFunc_extern Tryd.prog 132 _ (ReflectliteType.abiMethod fun t => do pure (.int .u8 (← Rtype.kind t))) Tryd.func132 (by kernel_rfl) (by kernel_rfl) (by kernel_rfl) (by kernel_rfl)
  have h37 := @run_callFunc_extern Tryd.prog 142 _ (ReflectliteType.method ReflectliteType.elem) Tryd.func142 (by kernel_rfl) (by kernel_rfl) (by kernel_rfl) (by kernel_rfl)
  have h38 := @run_callFunc_extern Tryd.prog 143 _ (ReflectliteType.relation "Implements" ReflectliteType.implements_) Tryd.func143 (by kernel_rfl) (by kernel_rfl) (by kernel_rfl) (by kernel_rfl)
  have h10 := @run_callFunc_extern Tryd.prog 97 _ ReflectliteType.typeOf Tryd.func97 (by kernel_rfl) (by kernel_rfl) (by kernel_rfl) (by kernel_rfl)
  have h35 := @run_callFunc_extern Tryd.prog 140 _ (ReflectliteType.relation "AssignableTo" ReflectliteType.assignableTo) Tryd.func140 (by kernel_rfl) (by kernel_rfl) (by kernel_rfl) (by kernel_rfl)
  have h11 := @run_callFunc_extern Tryd.prog 98 _ (ReflectliteValue.method (ReflectliteValue.valueError "reflectlite.Value.Elem" 0) ReflectliteValue.elem) Tryd.func98 (by kernel_rfl) (by kernel_rfl) (by kernel_rfl) (by kernel_rfl)
  have h12 := @run_callFunc_extern Tryd.prog 99 _ ReflectliteValue.set Tryd.func99 (by kernel_rfl) (by kernel_rfl) (by kernel_rfl) (by kernel_rfl)
  have tO := typeOfE
  have mA := methodAssignableTo
  have a25 := assignableE
  have v25 := valueOfE
  have f6 := valueOfT
  have f7 := typeT
  have mK := methodKind
  have mE := methodElem
  have mI := methodImplements
  have k27 := kindT
  have k25 := kindE
  have e27 := elemT
  have i25 := implementsE
  have n8 := isNilT ⟨w.heap.size, 0, none⟩ t ((w.alloc (.cells #[.pointer (some t)] 83)).alloc (.cells #[.pointer (some ⟨5, 83, none⟩), .pointer (some ⟨w.heap.size, 0, none⟩), .int .u64 150] 103)) (by simp)
  have hlt : 0 < w.heap.size := by
    rcases Nat.eq_zero_or_pos w.heap.size with h0 | h
    · simp [World.cell?, h0] at hg
    · exact h
  have hg2 : ((w.alloc (.cells #[.pointer (some t)] 83)).alloc (.cells #[.pointer (some ⟨5, 83, none⟩), .pointer (some ⟨w.heap.size, 0, none⟩), .int .u64 150] 103)).cell? ⟨0, 0, none⟩ = some (.iface 135 (.agg #[.pointer (some ⟨5, 25, none⟩)])) := by
    rw [World.cell?_alloc_lt _ _ ⟨0, 0, none⟩ (by simp), World.cell?_alloc_lt _ _ ⟨0, 0, none⟩ hlt]; exact hg
  have htl : t.block < w.heap.size := by
    rcases Nat.lt_or_ge t.block w.heap.size with h | h
    · exact h
    · simp [World.cell?, Array.getElem?_eq_none h] at ht0
  have el := elemVT ⟨w.heap.size, 0, none⟩ t (((w.alloc (.cells #[.pointer (some t)] 83)).alloc (.cells #[.pointer (some ⟨5, 83, none⟩), .pointer (some ⟨w.heap.size, 0, none⟩), .int .u64 150] 103)).alloc (.cells #[.pointer (some ⟨5, 83, none⟩), .pointer (some ⟨w.heap.size, 0, none⟩), .int .u64 150] 103)) (by rw [World.cell?_alloc_lt _ _ ⟨w.heap.size, 0, none⟩ (by simp; omega)]; simp)
  have st := setE t ⟨w.heap.size + 1 + 1 + 1, 0, none⟩ n old ((((w.alloc (.cells #[.pointer (some t)] 83)).alloc (.cells #[.pointer (some ⟨5, 83, none⟩), .pointer (some ⟨w.heap.size, 0, none⟩), .int .u64 150] 103)).alloc (.cells #[.pointer (some ⟨5, 83, none⟩), .pointer (some ⟨w.heap.size, 0, none⟩), .int .u64 150] 103)).alloc (.cells #[.int .i64 n] 61))
    (by rw [World.cell?_alloc_at _ _ _ _ (by simp)]; rfl)
    (by rw [World.cell?_alloc_lt _ _ t (by simp; omega), World.cell?_alloc_lt _ _ t (by simp; omega), World.cell?_alloc_lt _ _ t (by simp; omega), World.cell?_alloc_lt _ _ t htl]; exact ht0)
    (by rw [World.frozen?_alloc_old _ _ t (by simp; omega), World.frozen?_alloc_old _ _ t (by simp; omega), World.frozen?_alloc_old _ _ t (by simp; omega), World.frozen?_alloc_old _ _ t (Nat.ne_of_lt htl)]; exact hf0)
  go_enter Tryd.func50, Tryd.ntmps50
  go_wp2
  refine wp_loop_rounds 1 ?_
  rw [rounds_succ]
  go_wp2
  go_ret
  exact ⟨rfl, rfl⟩
end As
end Go.Proofs.YtljlnhbndkdlcaaDoor
/- What plain.Told makes of an error: its number. -/
namespace Go.Proofs.YtljlnhbndkdlcaaDoor
open Go.RowKit
set_option linter.unusedVariables false
/-- What plain.Told makes of an error. -/
theorem tell_any {w0 w : World} {R : HProp} (hg : As.Handle w0) (n : Nat) (h : Own w0 R w) :
    Calls Tryd.prog 33 #[errV n] w fun e w' => e = .returned (.int .i64 n) ∧ Own w0 R w' := by
  have HH := Lib.hid h
  cases n with
  | zero =>
    rw [errV0]
    go_enter Tryd.func33, Tryd.ntmps33
    go_wp2
    go_ret
    exact ⟨rfl, HH.out⟩
  | succ n =>
    rw [show errV (n + 1) = .iface 61 (.int .i64 ((n : Int) + 1)) from rfl]
    have hlt : (⟨0, 0, none⟩ : Addr).block < w0.heap.size := World.block_lt_of_cell? _ _ hg
    have hw : As.Handle w := by unfold As.Handle; rw [h.below.cell (p := ⟨0, 0, none⟩) hlt]; exact hg
    have hlw : (⟨0, 0, none⟩ : Addr).block < w.heap.size := World.block_lt_of_cell? _ _ hw
    have hw1 : As.Handle (w.alloc (.cells #[.int .i64 0] 61)) := by unfold As.Handle; rw [World.cell?_alloc_lt _ _ _ hlw]; exact hw
    have HW1 := Lib.hid hw1
    have g1 := (h.alloc (.cells #[.int .i64 0] 61))
    have HC := Lib.hid (g1.cell 0); have HF := Lib.hid (g1.free 0 none)
    clear hw hw1 hlw hlt h g1 hg
    go_enter Tryd.func33, Tryd.ntmps33
    go_wp2_with fail
    refine (As.as_hit _ ⟨w.heap.size, 0, none⟩ (.int .i64 0) _ HW1.out HC.out HF.out).mono ?_
    rintro e w' ⟨rfl, rfl⟩
    go_wp2
    go_ret
    exact ⟨by simp, ((((HH.out.alloc' _).alloc' _).alloc' _).alloc' _).alloc' _⟩
/-- Is an error the one told? -/
theorem sameErr_any {w0 w : World} {R : HProp} (hg : As.Handle w0) (n : Nat) (m : Int) (h : Own w0 R w) :
    Calls Tryd.prog 9 #[errV n, .int .i64 m] w fun e w' => e = .returned (.bool ((n : Int) == m)) ∧ Own w0 R w' := by
  have T := Lib.hid (tell_any hg n h)
  clear hg h
  go_enter Tryd.func9, Tryd.ntmps9
  go_wp2_with fail
  refine (T.out).mono ?_
  rintro e w' ⟨rfl, ho⟩
  have HO := Lib.hid ho
  clear ho
  go_wp2
  go_ret
  exact ⟨rfl, HO.out⟩
end Go.Proofs.YtljlnhbndkdlcaaDoor
/- HistoryAdds: an event behind a right history is right, or told at its place; what is said twice never is. -/
namespace Go.Proofs.YtljlnhbndkdlcaaDoor
set_option linter.unusedVariables false
set_option linter.unusedSimpArgs false
open Go.RowKit
theorem histGo_app : ∀ (r ahead s : List Ev), (∀ k (hk : k < r.length), evErr (ahead ++ r.take k) r[k] = 0) → histGo ahead (r ++ s) = histGo (ahead ++ r) s
  | [], ahead, s, _ => by simp
  | e :: r, ahead, s, h => by
    have h0 := h 0 (by simp)
    simp only [List.take_zero, List.append_nil, List.getElem_cons_zero] at h0
    rw [List.cons_append, histGo_cons, if_neg (by simpa using h0), histGo_app r (ahead ++ [e]) s (fun k hk => by have := h (k + 1) (by simpa using hk); simpa using this), List.append_assoc]
    rfl
theorem histR_snoc {h : List Ev} (hr : RightH h) (hl : h.length < 60) (e : Ev) : histR (h ++ [e]) = if evErr h e ≠ 0 then (h.length, evErr h e) else (0, 0) := by
  unfold histR
  rw [if_neg (by simp; omega), histGo_app h [] [e] (by simpa using hr.2), List.nil_append, histGo_cons]
  rfl
theorem says_twice {h : List Ev} {who other w : Int} (hr : RightH h) (hl : h.length ≤ 50) (he : (histR (h ++ [(who, 2, w)])).2 = 0) :
    histR ((h ++ [(who, 2, w)]) ++ [(other, 2, w)]) = (h.length + 1, if isMember other then 7 else 1) := by
  have hr2 := (histR_ok _).1 he
  rw [histR_snoc hr2 (by simp; omega)]
  have h1 := hr2.2 h.length (by simp)
  simp only [List.take_left, List.getElem_append_right (Nat.le_refl _), Nat.sub_self, List.getElem_cons_zero] at h1
  have hw := evErr0 h1
  have hword : isWord w = true := by unfold rightB at hw; simp at hw; exact hw.2
  have hs : 0 ≤ saidAt (h ++ [(who, 2, w)]) w := by
    unfold saidAt
    rw [whereI_any]
    exact List.any_eq_true.2 ⟨(who, 2, w), by simp, by simp [saysB]⟩
  have hE : evErr (h ++ [(who, 2, w)]) (other, 2, w) = if isMember other then 7 else 1 := by
    unfold evErr
    cases hm : isMember other
    · rw [if_pos (by unfold rightB; simp [hm])]; rfl
    · rw [if_neg (by unfold rightB; simp [hm, hword]), if_pos (.inl ⟨rfl, hs⟩)]; rfl
  rw [hE, if_pos (by split <;> simp)]
  simp
theorem one_hear : histR [(0, 3, 1)] = (0, 5) := by decide
end Go.Proofs.YtljlnhbndkdlcaaDoor
/- LogStops, plainly: members that think; when it stops. -/
namespace Go.Proofs.YtljlnhbndkdlcaaDoor
set_option linter.unusedVariables false
set_option linter.unusedSimpArgs false
open Go.RowKit
def thinkers (h : List Ev) : Prop := ∀ e ∈ h, e = (0, 1, 0)
theorem think_said {h : List Ev} (ht : thinkers h) (w : Int) : saidAt h w = -1 := by
  unfold saidAt
  rcases whereI_cases (saysB w) h with ⟨h1, _⟩ | ⟨k, hk, _, h2, _⟩
  · exact h1
  · rw [ht _ (List.getElem_mem hk)] at h2
    simp [saysB] at h2
theorem think_bad {h : List Ev} (hr : RightH h) (hl : h.length < 60) : (histR (h ++ [((5 : Int), (1 : Int), (0 : Int))])).2 = 1 := by
  rw [histR_snoc hr hl, show evErr h ((5 : Int), (1 : Int), (0 : Int)) = 1 from by unfold evErr; rw [if_pos (by decide)]]
  rfl
theorem think_ok {h : List Ev} (hr : RightH h) (hl : h.length < 60) (who : Int) (hw : 0 ≤ who ∧ who < 5) : (histR (h ++ [(who, (1 : Int), (0 : Int))])).2 = 0 := by
  rw [histR_snoc hr hl, show evErr h (who, (1 : Int), (0 : Int)) = 0 from by
    unfold evErr
    rw [if_neg (by unfold rightB isMember; simp [hw]), if_neg (by simp), if_neg (by simp), if_neg (by simp)]]
  rfl
theorem think_say {h : List Ev} (hr : RightH h) (ht : thinkers h) (hl : h.length < 60) : (histR (h ++ [((2 : Int), (2 : Int), (4 : Int))])).2 = 0 := by
  rw [histR_snoc hr hl, show evErr h ((2 : Int), (2 : Int), (4 : Int)) = 0 from by
    unfold evErr
    rw [if_neg (by decide), if_neg (by rw [think_said ht]; simp), if_neg (by simp), if_neg (by simp)]]
  rfl
structure StI (s : Lg) (af : Int) (t : Nat) : Prop where
  i : LgI s
  th : thinkers s.h
  len : s.h.length ≤ t ∧ s.h.length ≤ 25
  go : (t : Int) ≤ af → s.st = false ∧ s.left = af - t
  stop : af < (t : Int) → s.st = true
theorem StI.start {af : Int} (h0 : 0 ≤ af) (h1 : af ≤ 20) : StI (lgFail lgNew af) af 0 := by
  refine ⟨lgNew_I.fail (by unfold I64; omega), fun e he => by simp [lgFail, lgNew] at he, by simp [lgFail, lgNew], fun _ => ⟨rfl, ?_⟩, fun h => by omega⟩
  show max (-1) af = af - ((0 : Nat) : Int)
  rw [Int.max_def]; split <;> omega
theorem StI.bad {s : Lg} {af : Int} {t : Nat} (h : StI s af t) : lgErr s ((5 : Int), (1 : Int), (0 : Int)) = (if (t : Int) ≤ af then 1 else 6) ∧ lgDo s ((5 : Int), (1 : Int), (0 : Int)) = s := by
  have hh := think_bad h.i.hr (by have := h.len; omega)
  by_cases ht : (t : Int) ≤ af
  · have := (h.go ht).1
    unfold lgErr lgDo
    rw [hh, this]
    simp [ht]
  · have := h.stop (by omega)
    unfold lgErr lgDo
    rw [this]
    simp [ht]
theorem StI.ok {s : Lg} {af : Int} {t : Nat} (h : StI s af t) (ht20 : t < 20) : lgErr s ((0 : Int), (1 : Int), (0 : Int)) = (if (t : Int) < af then 0 else 6) ∧ StI (lgDo s ((0 : Int), (1 : Int), (0 : Int))) af (t + 1) := by
  have hh := think_ok h.i.hr (by have := h.len; omega) 0 (by omega)
  have hI := h.i.do ((0 : Int), (1 : Int), (0 : Int))
  have hlen := h.len
  by_cases ht : (t : Int) ≤ af
  · obtain ⟨h1, h2⟩ := h.go ht
    by_cases ht2 : (t : Int) < af
    · have hd : lgDo s ((0 : Int), (1 : Int), (0 : Int)) = { s with st := false, left := dec1 s.left, bs := s.bs ++ encE ((0 : Int), (1 : Int), (0 : Int)), h := s.h ++ [((0 : Int), (1 : Int), (0 : Int))] } := by
        unfold lgDo; rw [hh, h1, if_neg (by simp), if_neg (by simp), if_neg (by omega)]
      refine ⟨by unfold lgErr; rw [hh, h1, if_neg (by simp), if_neg (by simp), if_neg (by omega), if_pos ht2], ?_⟩
      rw [hd] at hI ⊢
      refine ⟨hI, fun e he => ?_, ?_, fun _ => ⟨rfl, ?_⟩, fun h => by omega⟩
      · rcases List.mem_append.1 he with he | he
        · exact h.th e he
        · exact List.mem_singleton.1 he
      · show (s.h ++ [_]).length ≤ t + 1 ∧ (s.h ++ [_]).length ≤ 25
        simp only [List.length_append, List.length_cons, List.length_nil]; omega
      · show dec1 s.left = _
        rw [dec1_is, h2]; split <;> omega
    · have hd : lgDo s ((0 : Int), (1 : Int), (0 : Int)) = { s with st := true, left := -1, bs := s.bs ++ halfE ((0 : Int), (1 : Int), (0 : Int)) } := by
        unfold lgDo; rw [hh, h1, if_neg (by simp), if_neg (by simp), if_pos (by omega)]
      refine ⟨by unfold lgErr; rw [hh, h1, if_neg (by simp), if_neg (by simp), if_pos (by omega), if_neg ht2], ?_⟩
      rw [hd] at hI ⊢
      exact ⟨hI, h.th, by show s.h.length ≤ t + 1 ∧ s.h.length ≤ 25; omega, fun h => by omega, fun _ => rfl⟩
  · have h1 := h.stop (by omega)
    have hd : lgDo s ((0 : Int), (1 : Int), (0 : Int)) = s := by unfold lgDo; rw [if_pos h1]
    refine ⟨by unfold lgErr; rw [if_pos h1, if_neg (by omega)], ?_⟩
    rw [hd]
    exact ⟨h.i, h.th, by omega, fun h => by omega, fun _ => h1⟩
theorem StI.sync {s : Lg} {af : Int} {t : Nat} (h : StI s af t) (ht : (t : Int) ≤ af) : lgSyncErr s = (if (t : Int) < af then 0 else 6) ∧ StI (lgSync s) af (t + 1) := by
  have hI := h.i.sync
  have hlen := h.len
  obtain ⟨h1, h2⟩ := h.go ht
  by_cases ht2 : (t : Int) < af
  · have hd : lgSync s = { s with st := false, left := dec1 s.left, safe := s.bs.length } := by
      unfold lgSync; rw [h1, if_neg (by simp), if_neg (by omega)]
    refine ⟨by unfold lgSyncErr; rw [if_neg (by rw [h1]; simp; omega), if_pos ht2], ?_⟩
    rw [hd] at hI ⊢
    refine ⟨hI, h.th, by show s.h.length ≤ t + 1 ∧ s.h.length ≤ 25; omega, fun _ => ⟨rfl, ?_⟩, fun h => by omega⟩
    show dec1 s.left = _
    rw [dec1_is, h2]; split <;> omega
  · have hd : lgSync s = { s with st := true, left := -1 } := by
      unfold lgSync; rw [h1, if_neg (by simp), if_pos (by omega)]
    refine ⟨by unfold lgSyncErr; rw [if_pos (.inr (by omega)), if_neg ht2], ?_⟩
    rw [hd] at hI ⊢
    exact ⟨hI, h.th, by show s.h.length ≤ t + 1 ∧ s.h.length ≤ 25; omega, fun h => by omega, fun _ => rfl⟩
/-- Behind the stop: nothing goes; behind the crash all goes on. -/
theorem StI.stopped {s : Lg} {af : Int} {t : Nat} (h : StI s af t) (ht : af < (t : Int)) : lgSyncErr s = 6 ∧ lgSync s = s ∧ lgErr s ((1 : Int), (1 : Int), (0 : Int)) = 6 ∧ lgDo s ((1 : Int), (1 : Int), (0 : Int)) = s := by
  have h1 := h.stop ht
  unfold lgSyncErr lgSync lgErr lgDo
  rw [h1]
  simp
structure Cr (s : Lg) (k : Nat) : Prop where
  i : LgI s
  err : lgErr s ((2 : Int), (2 : Int), (4 : Int)) = 0
  h : (lgDo s ((2 : Int), (2 : Int), (4 : Int))).h = s.h ++ [((2 : Int), (2 : Int), (4 : Int))]
  st : lgSyncErr (lgDo s ((2 : Int), (2 : Int), (4 : Int))) = 0
  sh : (lgSync (lgDo s ((2 : Int), (2 : Int), (4 : Int)))).h = s.h ++ [((2 : Int), (2 : Int), (4 : Int))]
  len : s.h.length = k ∧ k ≤ 25
  r : (histR (s.h ++ [((2 : Int), (2 : Int), (4 : Int))])).2 = 0
theorem StI.crash {s : Lg} {af : Int} {t : Nat} (h : StI s af t) (keep : Int) : ∃ k, Cr (lgCrash s keep) k := by
  have hI := h.i.crash keep
  have hlen : (lgCrash s keep).h.length ≤ 25 := by
    show (s.h.take _).length ≤ 25
    rw [List.length_take]; have := h.len; omega
  have hth : thinkers (lgCrash s keep).h := fun e he => h.th e (List.mem_of_mem_take he)
  have hh := think_say hI.hr hth (by omega)
  have hst : (lgCrash s keep).st = false := rfl
  have hlf : (lgCrash s keep).left = -1 := rfl
  have hd : lgDo (lgCrash s keep) ((2 : Int), (2 : Int), (4 : Int)) = { lgCrash s keep with st := false, left := dec1 (lgCrash s keep).left, bs := (lgCrash s keep).bs ++ encE ((2 : Int), (2 : Int), (4 : Int)), h := (lgCrash s keep).h ++ [((2 : Int), (2 : Int), (4 : Int))] } := by
    unfold lgDo; rw [hh, hst, if_neg (by simp), if_neg (by simp), if_neg (by rw [hlf]; omega)]
  refine ⟨_, hI, ?_, by rw [hd], ?_, ?_, ⟨rfl, hlen⟩, hh⟩
  · unfold lgErr; rw [hh, hst, if_neg (by simp), if_neg (by simp), if_neg (by rw [hlf]; omega)]
  · rw [hd]; unfold lgSyncErr; rw [if_neg (by
      intro hc
      rcases hc with hc | hc
      · cases hc
      · exact absurd (hlf ▸ hc : dec1 (-1) = 0) (by decide))]
  · rw [hd]; unfold lgSync; rw [if_neg (by simp), if_neg (by
      intro hc
      exact absurd (hlf ▸ hc : dec1 (-1) = 0) (by decide))]
end Go.Proofs.YtljlnhbndkdlcaaDoor
/- strconv.Itoa of a small number; strings.LastIndex and strings.Count at one byte. -/
namespace Go.Proofs.YtljlnhbndkdlcaaDoor
set_option linter.unusedVariables false
set_option linter.unusedSimpArgs false
open Go.RowKit
def digB (i : Nat) : ByteArray := ⟨(Lib.decDigits i).toArray⟩
theorem small_ba (x : ByteArray) (l : List UInt8) (h : x.data.toList = l) : x = ⟨l.toArray⟩ := by
  subst h
  cases x
  simp
set_option maxRecDepth 100000 in
set_option maxHeartbeats 4000000 in
theorem stSmall (i : Nat) (h : i < 100) (w : World) :
    Calls Tryd.prog 93 #[.int .i64 (i : Int)] w fun e w' => e = .returned (.string (digB i)) ∧ w = w' := by
  go_enter Tryd.func93, Tryd.ntmps93
  go_name_bytes_deep 45 SM hSM
  have eSM : SM = Lib.smalls := by rw [← hSM]; decide +kernel
  subst eSM
  clear hSM
  go_name_bytes_deep 30 DG hDG
  have eDG : DG = Lib.digits36 := by rw [← hDG]; decide +kernel
  subst eDG
  clear hDG
  by_cases h10 : i < 10
  · have hsl : ∀ w, (Instr.slice 9 (.string Lib.digits36) (some (.int .i64 (i : Int))) (some (.int .i64 ((i : Int) + 1))) none).run Tryd.prog w = .ok (.string (Lib.digits36.extract i (i + 1))) w := fun w => by
      rw [run_slice_string w 9 Lib.digits36 .i64 .i64 _ _ Tryd.underlying9 (by omega) (by omega) (by rw [Lib.digits36_size]; omega), show ((i : Int)).toNat = i by omega, show ((i : Int) + 1).toNat = i + 1 by omega]
    go_wp2
    go_ret
    refine ⟨?_, rfl⟩
    show Ending.returned (Value.string (Lib.digits36.extract i (i + 1))) = _
    rw [small_ba (Lib.digits36.extract i (i + 1)) (Lib.decDigits i) (by rw [Lib.extract_data]; exact Lib.digits36_piece h10)]
    rfl
  · have hsl : ∀ w, (Instr.slice 9 (.string Lib.smalls) (some (.int .i64 ((i : Int) * 2))) (some (.int .i64 ((i : Int) * 2 + 2))) none).run Tryd.prog w = .ok (.string (Lib.smalls.extract (i * 2) (i * 2 + 2))) w := fun w => by
      rw [run_slice_string w 9 Lib.smalls .i64 .i64 _ _ Tryd.underlying9 (by omega) (by omega) (by rw [Lib.smalls_size]; omega), show ((i : Int) * 2).toNat = i * 2 by omega, show ((i : Int) * 2 + 2).toNat = i * 2 + 2 by omega]
    go_wp2
    go_ret
    refine ⟨?_, rfl⟩
    show Ending.returned (Value.string (Lib.smalls.extract (i * 2) (i * 2 + 2))) = _
    rw [small_ba (Lib.smalls.extract (i * 2) (i * 2 + 2)) (Lib.decDigits i) (by rw [Lib.extract_data]; exact Lib.smalls_piece h10 h)]
    rfl
set_option maxRecDepth 100000 in
set_option maxHeartbeats 4000000 in
theorem stFormat (i : Nat) (h : i < 100) (w : World) :
    Calls Tryd.prog 70 #[.int .i64 (i : Int), .int .i64 10] w fun e w' => e = .returned (.string (digB i)) ∧ w = w' := by
  have i0 : (0 : Int) ≤ (i : Int) := by omega
  have i1 : (i : Int) < 100 := by omega
  go_enter Tryd.func70, Tryd.ntmps70
  go_wp2_with fail
  refine (stSmall i h _).mono ?_
  rintro e w' ⟨rfl, rfl⟩
  go_wp2
  go_ret
  exact ⟨rfl, rfl⟩
set_option maxRecDepth 100000 in
set_option maxHeartbeats 4000000 in
theorem stItoa1 (i : Nat) (h : i < 100) (w : World) :
    Calls Tryd.prog 49 #[.int .i64 (i : Int)] w fun e w' => e = .returned (.string (digB i)) ∧ w = w' := by
  go_enter Tryd.func49, Tryd.ntmps49
  go_wp2_with fail
  refine (stFormat i h _).mono ?_
  rintro e w' ⟨rfl, rfl⟩
  go_wp2
  go_ret
  exact ⟨rfl, rfl⟩
set_option maxRecDepth 100000 in
set_option maxHeartbeats 4000000 in
theorem stItoa (i : Nat) (h : i < 100) (w : World) :
    Calls Tryd.prog 31 #[.int .i64 (i : Int)] w fun e w' => e = .returned (.string (digB i)) ∧ w = w' := by
  go_enter Tryd.func31, Tryd.ntmps31
  go_wp2_with fail
  refine (stItoa1 i h _).mono ?_
  rintro e w' ⟨rfl, rfl⟩
  go_wp2
  go_ret
  exact ⟨rfl, rfl⟩
theorem byteBang (s : ByteArray) (j : Nat) (hj : j < s.size) : s.data[j]! = s[j] := by
  rw [getElem!_pos s.data j (by simpa using hj)]; rfl
set_option maxRecDepth 100000 in
set_option maxHeartbeats 4000000 in
theorem stLastB (s : ByteArray) (c : Int) (hs : s.size < 4611686018427387904) (w : World) :
    Calls Tryd.prog 51 #[.string s, .int .u8 c] w fun e w' => e = .returned (.int .i64 (Lib.lastIndexByte s c)) ∧ w = w' := by
  go_enter Tryd.func51, Tryd.ntmps51
  go_wp2_with fail
  go_loop [5] (fun vi => ∃ k : Nat, k ≤ s.size ∧ vi = .int .i64 ((k : Int) - 1) ∧ Hid (Lib.lastIndexByte s c = Lib.lastIdx s c k)) (fun vi => ((RowKit.intOf vi) + 1).toNat)
  case atStart => exact ⟨s.size, Nat.le_refl _, by first | rfl | go_num | (congr 1; omega), Lib.hid rfl⟩
  case round =>
    obtain ⟨k, hk, rfl, hh⟩ := hrel
    go_wp2
    · have hc : (((s[k - 1]).toNat : Int) == c) = true := by assumption
      have k1 : 1 ≤ k := by omega
      have e1 : Lib.lastIdx s c k = ((k - 1 : Nat) : Int) := by
        have := Lib.lastIdx_hit s c (k - 1) (by rw [byteBang s (k - 1) (by omega)]; simpa using hc)
        rwa [show k - 1 + 1 = k by omega] at this
      have e2 : ((k - 1 : Nat) : Int) = (k : Int) - 1 := by omega
      go_ret
      rw [hh.out, e1, e2]
      exact ⟨rfl, rfl⟩
    · have hc : (((s[k - 1]).toNat : Int) == c) = false := by assumption
      have k1 : 1 ≤ k := by omega
      have e1 : Lib.lastIdx s c k = Lib.lastIdx s c (k - 1) := by
        have := Lib.lastIdx_miss s c (k - 1) (by rw [byteBang s (k - 1) (by omega)]; simpa using hc)
        rwa [show k - 1 + 1 = k by omega] at this
      refine ⟨⟨k - 1, by omega, by congr 1; omega, Lib.hid (hh.out.trans e1)⟩, ?_⟩
      simp [RowKit.intOf]; omega
    · have k0 : k = 0 := by omega
      subst k0
      go_ret
      rw [hh.out]
      exact ⟨rfl, rfl⟩
set_option maxRecDepth 100000 in
set_option maxHeartbeats 4000000 in
theorem stLast (s : ByteArray) (hs : s.size < 4611686018427387904) (w : World) :
    Calls Tryd.prog 34 #[.string s, .string ⟨#[10]⟩] w fun e w' => e = .returned (.int .i64 (Lib.lastIndexByte s 10)) ∧ w = w' := by
  go_enter Tryd.func34, Tryd.ntmps34
  go_wp2_with fail
  refine (stLastB s 10 hs _).mono ?_
  rintro e w' ⟨rfl, rfl⟩
  go_wp2
  go_ret
  exact ⟨rfl, rfl⟩
set_option maxRecDepth 100000 in
set_option maxHeartbeats 4000000 in
theorem stCount (s : ByteArray) (w : World) :
    Calls Tryd.prog 35 #[.string s, .string ⟨#[10]⟩] w fun e w' => e = .returned (.int .i64 ((s.data.toList.count 10 : Nat) : Int)) ∧ w = w' := by
  go_enter Tryd.func35, Tryd.ntmps35
  go_wp2
  rw [run_callFunc_extern Tryd.func54 (by kernel_rfl) (by kernel_rfl) (by kernel_rfl) (e := Extern.BytealgCount.count) (by kernel_rfl), Lib.run_countString]
  simp only [Result.andThen]
  rw [Oper.upon_value]
  go_wp2
  go_ret
  exact ⟨rfl, rfl⟩
end Go.Proofs.YtljlnhbndkdlcaaDoor
/- slices.Clone of events. -/
namespace Go.Proofs.YtljlnhbndkdlcaaDoor
set_option linter.unusedVariables false
set_option linter.unusedSimpArgs false
open Go.RowKit Go.Maps
set_option maxRecDepth 100000 in
set_option maxHeartbeats 4000000 in
theorem cloneEv_any {w0 w : World} {R : HProp} (v : Value) (l : List Ev) (hl : Evs w v l) (hb : l.length ≤ 1000000) (h : Own w0 R w) :
    Calls Tryd.prog 29 #[v] w fun e w' => ∃ v', e = .returned v' ∧ Own w0 (EvSl v' l * R) w' := by
  obtain ⟨⟨ad, cap, rfl, hlc, hcap, hn, hc⟩, hi⟩ := id hl
  cases ad with
  | none =>
    have h0 := hn rfl
    subst h0
    have hl0 : l = [] := List.eq_nil_of_length_eq_zero (by omega)
    subst hl0
    clear hn hc hi hl hlc hcap hb
    have hnil := fun (w : World) => Lib.run_eql_slice_nil (P := Tryd.prog) w 33 28 none 0 0 0 0 Tryd.underlying33
    go_enter Tryd.func29, Tryd.ntmps29
    go_wp2
    go_ret
    exact ⟨_, rfl, h.sl_nil _ _⟩
  | some a =>
    have hnil := fun (w : World) => Lib.run_eql_slice_nil (P := Tryd.prog) w 33 28 (some a) l.length cap 0 0 Tryd.underlying33
    have H := Lib.hid h
    have HL := Lib.hid hl
    have HS : Hid (Own w0 (Sl 28 3 (.slice (some ⟨w.heap.size, 0, none⟩) 0 0) 0 [] * R) (w.alloc (.cells #[] 28))) := Lib.hid (Own.sl_mk (cs := #[]) (Nat.le_refl _) (Nat.zero_le _) rfl (Nat.le_refl _) (fun i hi => by simp at hi) (h.alloc _))
    clear hn hc hi hl h
    go_enter Tryd.func29, Tryd.ntmps29
    go_wp2_with (at_builtin; refine wpList_app rfl _ _ 33 rfl 28 3 24 _ info_ev Tryd.underlying33 rfl (by decide) rfl HS.out rfl (cells_len evCells 3 (fun _ => rfl) _) ((HL.out.1).alloc _) (ev_one _) (by unfold maxLen; omega) (by omega) ?_; intro v' w1 hown')
    go_ret
    exact ⟨_, rfl, by unfold EvSl; simpa using hown'⟩
end Go.Proofs.YtljlnhbndkdlcaaDoor
/- Parts of what is owned brought to the front; a literal of ints. -/
namespace Go.Proofs.YtljlnhbndkdlcaaDoor
set_option linter.unusedVariables false
set_option linter.unusedSimpArgs false
open Go.RowKit
section
variable {w0 w : World} {A B C D E F G H R : HProp}
theorem Own.second (h : Own w0 (A * (B * R)) w) : Own w0 (B * (A * R)) w := h.perm (by ac_rfl)
theorem Own.third (h : Own w0 (A * (B * (C * R))) w) : Own w0 (C * (A * (B * R))) w := h.perm (by ac_rfl)
theorem Own.fourth (h : Own w0 (A * (B * (C * (D * R)))) w) : Own w0 (D * (A * (B * (C * R)))) w := h.perm (by ac_rfl)
theorem Own.fifth (h : Own w0 (A * (B * (C * (D * (E * R))))) w) : Own w0 (E * (A * (B * (C * (D * R))))) w := h.perm (by ac_rfl)
theorem Own.sixth (h : Own w0 (A * (B * (C * (D * (E * (F * R)))))) w) : Own w0 (F * (A * (B * (C * (D * (E * R))))) ) w := h.perm (by ac_rfl)
theorem Own.seventh (h : Own w0 (A * (B * (C * (D * (E * (F * (G * R))))))) w) : Own w0 (G * (A * (B * (C * (D * (E * (F * R)))))) ) w := h.perm (by ac_rfl)
/-- The front put back to the third, fourth, .. place. -/
theorem Own.to3 (h : Own w0 (A * (B * (C * R))) w) : Own w0 (B * (C * (A * R))) w := h.perm (by ac_rfl)
theorem Own.to4 (h : Own w0 (A * (B * (C * (D * R)))) w) : Own w0 (B * (C * (D * (A * R)))) w := h.perm (by ac_rfl)
theorem Own.to5 (h : Own w0 (A * (B * (C * (D * (E * R))))) w) : Own w0 (B * (C * (D * (E * (A * R))))) w := h.perm (by ac_rfl)
theorem Own.to6 (h : Own w0 (A * (B * (C * (D * (E * (F * R)))))) w) : Own w0 (B * (C * (D * (E * (F * (A * R)))))) w := h.perm (by ac_rfl)
end
theorem Own.only {w0 w : World} {P R : HProp} (h : Own w0 (P * R) w) : Own w0 (P * emp) w := by rw [star_emp]; exact h.drop2
theorem Own.litI {w0 w : World} {b : Nat} {R : HProp} (l : List Int) (k : Nat) (hk : l.length = k) (hm : k ≤ 1000) (h : Own w0 (blk b (.cells (l.map (Value.int .i64)).toArray 3 (0, 0)) * R) w) : Own w0 (IntSl (.slice (some ⟨b, 0, none⟩) k k) l * R) w := by
  unfold IntSl
  subst hk
  exact Own.sl_mk (Nat.le_refl _) (by unfold maxLen; omega) (by simp) (by simp) (fun i hi => by simp) h
end Go.Proofs.YtljlnhbndkdlcaaDoor
