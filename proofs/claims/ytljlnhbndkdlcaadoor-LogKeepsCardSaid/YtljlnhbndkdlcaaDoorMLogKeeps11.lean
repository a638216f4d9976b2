/- Package log: Faces. -/
import Derived.Test.YtljlnhbndkdlcaaDoorMLogKeeps9
import Derived.Test.YtljlnhbndkdlcaaDoorMLogKeeps8
import Derived.Test.YtljlnhbndkdlcaaDoorMLogKeeps2
import Derived.LaidEql
import Derived.Stop.Asserts
import Derived.RowKitTokens
import Derived.Test.YtljlnhbndkdlcaaDoorMLogKeeps6
import Derived.Test.YtljlnhbndkdlcaaDoorMLogKeeps5
import Derived.Test.YtljlnhbndkdlcaaDoorMLogKeeps3
namespace Go.Proofs.YtljlnhbndkdlcaaDoor
set_option linter.unusedVariables false
set_option linter.unusedSimpArgs false
open Go.RowKit
set_option maxRecDepth 100000 in
set_option maxHeartbeats 4000000 in
theorem lgFaces_any {w0 w : World} {R : HProp} (p : Nat) (s : Lg) (hI : LgI s) (h : Own w0 (LgP p s * R) w) :
    Calls Tryd.prog 27 #[.pointer (some ⟨p, 0, none⟩)] w fun e w' => e = .returned (.tuple #[.agg #[.bool (facesF s.h), .bool (facesC s.h), .bool (facesT s.h)], errV (facesErr s.h)]) ∧ Own w0 (LgP p s * R) w' := by
  obtain ⟨hv, ho⟩ := h.lg_open
  obtain ⟨fb, hb_fb⟩ : ∃ zz_, zz_ = (w).heap.size := ⟨_, rfl⟩
  obtain ⟨w1, hw_w1⟩ : ∃ zz_, zz_ = (w).alloc (.cells #[.bool false, .bool false, .bool false] 54 (0, 0)) := ⟨_, rfl⟩
  have h_H1 := (ho).alloc (.cells #[.bool false, .bool false, .bool false] 54 (0, 0))
  rw [← hb_fb, ← hw_w1] at h_H1
  have H1 := Lib.hid h_H1
  clear h_H1
  have H2 : Hid (Own w0 (FaO fb false false false * (LgO p hv s * R)) w1) := Lib.hid H1.out
  obtain ⟨c0, _⟩ := H2.out.drop.lg_facts
  have HE : Hid (ReadsE w0 (FaO fb false false false * (LgO p hv s * R)) hv s.h) := Lib.hid (fun wq hq => hq.drop.lg_evs hI.hr)
  clear ho H1
  have H := Lib.hid h; have HI := Lib.hid hI
  clear h hI
  obtain ⟨V, hV⟩ : ∃ x, x = errV (facesErr s.h) := ⟨_, rfl⟩
  go_enter Tryd.func27, Tryd.ntmps27
  go_upto_region 1 with fail
  rw [← hb_fb, ← hw_w1]
  clear hb_fb hw_w1
  go_wp2_with fail
  refine (facesOf_any hv s.h H2.out HE.out).mono ?_
  rintro e w2 ⟨rfl, ho⟩
  rw [← hV]
  have HV := Lib.hid hV
  clear hV
  obtain ⟨g0, g1, g2, g4⟩ := ho.fa
  have hst := ((ho.fa0 (facesF s.h)).fa1 (facesC s.h)).fa2 (facesT s.h)
  obtain ⟨p0, p1, p2, _⟩ := hst.fa
  have HO3 := Lib.hid hst.drop
  clear hst ho c0
  go_wp2_with fail
  exact bodyPost_ret (v := .tuple #[.agg #[.bool (facesF s.h), .bool (facesC s.h), .bool (facesT s.h)], errV (facesErr s.h)]) (by rw [← HV.out]; simp [results, Tryd.results27, go_sem, p0, p1, p2]) rfl ⟨rfl, Own.lg_close HO3.out⟩
end Go.Proofs.YtljlnhbndkdlcaaDoor
/- errors.As at a number of api, and what plain.Told makes of an error: its number. (After the guide's Toyas example, at a target that is a number.) -/
namespace Go.Proofs.YtljlnhbndkdlcaaDoor
open Go.RowKit Go.Extern.Stop Go.Stop Go.Extern
set_option linter.unusedVariables false
namespace As
/-- The variable errors.errorType holds the handle of the type error. -/
def Handle (w : World) : Prop := w.cell? ⟨0, 0, none⟩ = some (.iface 135 (.agg #[.pointer (some ⟨5, 25, none⟩)]))
theorem valueOfT (t : Addr) (w : World) : (ReflectliteValue.unpack (.iface 83 (.pointer (some t)))).run Tryd.prog w
    = .ok (.agg #[.pointer (some ⟨5, 83, none⟩), .pointer (some ⟨w.heap.size, 0, none⟩), .int .u64 150]) (w.alloc (.cells #[.pointer (some t)] 83)) := by kernel_rfl
theorem typeT (a : Addr) (w : World) : (ReflectliteValue.methodAny (ReflectliteValue.valueError "reflectlite.Value.Type" 0) (fun t _ _ _ => ReflectliteType.toType t) #[.agg #[.pointer (some ⟨5, 83, none⟩), .pointer (some a), .int .u64 150]]).run Tryd.prog w
    = .ok (.iface 135 (.agg #[.pointer (some ⟨5, 83, none⟩)])) w := by kernel_rfl
theorem methodKind (h : Value) (w : World) : (Go.method 289 135 (.agg #[h]) "Kind").run Tryd.prog w = .ok (132, h) w := by kernel_rfl
theorem kindT (w : World) : ((ReflectliteType.abiMethod fun t => (fun a : Nat => Value.int IntKind.u8 (a : Int)) <$> Rtype.kind t) #[.pointer (some ⟨5, 83, none⟩)]).run Tryd.prog w = .ok (.int .u8 22) w := by kernel_rfl
theorem kindE (w : World) : ((ReflectliteType.abiMethod fun t => (fun a : Nat => Value.int IntKind.u8 (a : Int)) <$> Rtype.kind t) #[.pointer (some ⟨5, 61, none⟩)]).run Tryd.prog w = .ok (.int .u8 2) w := by kernel_rfl
theorem rlm (z : Sem Value) (f : TypeId → Addr → Nat → Nat → Sem Value) (v : Value) :
    ReflectliteValue.method z f #[v] = (do match ← ReflectliteValue.parts v with | none => z | some (t, a, fl) => f t a fl (fl % 32)) := rfl
theorem partsT (a : Addr) (w : World) : (ReflectliteValue.parts (.agg #[.pointer (some ⟨5, 83, none⟩), .pointer (some a), .int .u64 150])).run Tryd.prog w = .ok (some (83, a, 150)) w := by kernel_rfl
theorem isNilT (a p : Addr) (W : World) (ha : W.cell? a = some (.pointer (some p))) :
    (ReflectliteValue.method (ReflectliteValue.valueError "reflectlite.Value.IsNil" 0) ReflectliteValue.isNil #[.agg #[.pointer (some ⟨5, 83, none⟩), .pointer (some a), .int .u64 150]]).run Tryd.prog W = .ok (.bool false) W := by
  rw [rlm]
  simp only [Sem.run_bind, partsT, Result.andThen]
  simp [ReflectliteValue.isNil, loadVar, isAgg, underlying, Tryd.underlying83, ha, Result.andThen]
theorem methodElem (h : Value) (w : World) : (Go.method 289 135 (.agg #[h]) "Elem").run Tryd.prog w = .ok (142, .agg #[h]) w := by kernel_rfl
theorem methodImplements (h : Value) (w : World) : (Go.method 289 135 (.agg #[h]) "Implements").run Tryd.prog w = .ok (143, .agg #[h]) w := by kernel_rfl
theorem methodAssignableTo (h : Value) (w : World) : (Go.method 289 135 (.agg #[h]) "AssignableTo").run Tryd.prog w = .ok (140, .agg #[h]) w := by kernel_rfl
theorem elemT (w : World) : (ReflectliteType.method ReflectliteType.elem #[.agg #[.pointer (some ⟨5, 83, none⟩)]]).run Tryd.prog w = .ok (.iface 135 (.agg #[.pointer (some ⟨5, 61, none⟩)])) w := by kernel_rfl
theorem implementsE (w : World) : (ReflectliteType.relation "Implements" ReflectliteType.implements_ #[.agg #[.pointer (some ⟨5, 61, none⟩)], .iface 135 (.agg #[.pointer (some ⟨5, 25, none⟩)])]).run Tryd.prog w = .ok (.bool true) w := by kernel_rfl
theorem typeOfE (v : Value) (w : World) : (ReflectliteType.typeOf #[.iface 61 v]).run Tryd.prog w = .ok (.iface 135 (.agg #[.pointer (some ⟨5, 61, none⟩)])) w := by kernel_rfl
theorem assignableE (w : World) : (ReflectliteType.relation "AssignableTo" ReflectliteType.assignableTo #[.agg #[.pointer (some ⟨5, 61, none⟩)], .iface 135 (.agg #[.pointer (some ⟨5, 61, none⟩)])]).run Tryd.prog w = .ok (.bool true) w := by kernel_rfl
theorem valueOfE (n : Int) (w : World) : (ReflectliteValue.unpack (.iface 61 (.int .i64 n))).run Tryd.prog w
    = .ok (.agg #[.pointer (some ⟨5, 61, none⟩), .pointer (some ⟨w.heap.size, 0, none⟩), .int .u64 130]) (w.alloc (.cells #[.int .i64 n] 61)) := by kernel_rfl
theorem elemOfT (w : World) : (Rtype.elem? 83).run Tryd.prog w = .ok (some 61) w := by kernel_rfl
theorem mkE (p : Addr) (w : World) : (ReflectliteValue.mk 61 p ReflectliteValue.flagAddr).run Tryd.prog w = .ok (.agg #[.pointer (some ⟨5, 61, none⟩), .pointer (some p), .int .u64 386]) w := by kernel_rfl
theorem elemVT (a p : Addr) (W : World) (ha : W.cell? a = some (.pointer (some p))) :
    (ReflectliteValue.method (ReflectliteValue.valueError "reflectlite.Value.Elem" 0) ReflectliteValue.elem #[.agg #[.pointer (some ⟨5, 83, none⟩), .pointer (some a), .int .u64 150]]).run Tryd.prog W
      = .ok (.agg #[.pointer (some ⟨5, 61, none⟩), .pointer (some p), .int .u64 386]) W := by
  rw [rlm]
  simp only [Sem.run_bind, partsT, Result.andThen]
  simp [ReflectliteValue.elem, loadVar, isAgg, underlying, Tryd.underlying83, ha, Result.andThen, elemOfT, mkE]
theorem rls (v x : Value) : ReflectliteValue.set #[v, x] = (do
    let (some (dst, a, fl), some (src, b, _)) := (← ReflectliteValue.parts v, ← ReflectliteValue.parts x)
      | unsupported (.noEntry "extern/(internal/reflectlite.Value).Set.zeroValue")
    if fl / ReflectliteValue.flagAddr % 2 == 0 then unsupported (.noEntry "extern/(internal/reflectlite.Value).Set.unaddressable")
    let val ← loadVar src b
    if ← Rtype.directlyAssignable dst src then storeVar dst a val
    else if ← Rtype.implements dst src then
      if (← Rtype.kind src) == 20 then
        match val with
        | .nilIface => unsupported (.noEntry "extern/reflectlite: a nil value of one interface type handed on as a value of another")
        | _ => storeVar dst a val
      else storeVar dst a (.iface src val)
    else panicString ("reflectlite.Set: value of type " ++ (← Rtype.spelt src) ++ " is not assignable to type " ++ (← Rtype.spelt dst))
    pure (.tuple #[])) := rfl
theorem partsEa (a : Addr) (w : World) : (ReflectliteValue.parts (.agg #[.pointer (some ⟨5, 61, none⟩), .pointer (some a), .int .u64 386])).run Tryd.prog w = .ok (some (61, a, 386)) w := by kernel_rfl
theorem partsE (a : Addr) (w : World) : (ReflectliteValue.parts (.agg #[.pointer (some ⟨5, 61, none⟩), .pointer (some a), .int .u64 130])).run Tryd.prog w = .ok (some (61, a, 130)) w := by kernel_rfl
theorem directE (w : World) : (Rtype.directlyAssignable 61 61).run Tryd.prog w = .ok true w := by kernel_rfl
theorem sizeE (w : World) : (sizeOf 61).run Tryd.prog w = .ok 1 w := by kernel_rfl
theorem setE (ta b : Addr) (n : Int) (old : Value) (W : World) (hb : W.cell? b = some (.int .i64 n)) (ht : W.cell? ta = some old) (hf : W.frozen? ta = false) :
    (ReflectliteValue.set #[.agg #[.pointer (some ⟨5, 61, none⟩), .pointer (some ta), .int .u64 386], .agg #[.pointer (some ⟨5, 61, none⟩), .pointer (some b), .int .u64 130]]).run Tryd.prog W
      = .ok (.tuple #[]) (W.setCell ta (.int .i64 n)) := by
  rw [rls]
  simp only [Sem.run_bind, partsEa, partsE, Result.andThen]
  simp [ReflectliteValue.flagAddr, loadVar, isAgg, underlying, Tryd.underlying61, hb, Result.andThen, directE, storeVar, Value.cells, storeCells, Addr.add]
  rw [run_store Tryd.prog W ta _ _ (by rfl)]
  simp [ht, hf]
set_option maxHeartbeats 4000000 in
theorem as_hit (n : Int) (t : Addr) (old : Value) (w : World) (hg : Handle w) (ht0 : w.cell? t = some old) (hf0 : w.frozen? t = false) :
    Calls Tryd.prog 50 #[.iface 61 (.int .i64 n), .iface 83 (.pointer (some t))] w fun ev w' => ev = .returned (.bool true) ∧ w' = ((((w.alloc (.cells #[.pointer (some t)] 83)).alloc (.cells #[.pointer (some ⟨5, 83, none⟩), .pointer (some ⟨w.heap.size, 0, none⟩), .int .u64 150] 103)).alloc (.cells #[.pointer (some ⟨5, 83, none⟩), .pointer (some ⟨w.heap.size, 0, none⟩), .int .u64 150] 103)).alloc (.cells #[.int .i64 n] 61)).setCell t (.int .i64 n) := by
  have hg : w.cell? ⟨0, 0, none⟩ = some (.iface 135 (.agg #[.pointer (some ⟨5, 25, none⟩)])) := hg
  have h6 := @run_callFunc_extern Tryd.prog 71 _ (fun args => ReflectliteValue.unpack (args.getD 0 (.tuple #[]))) Tryd.func71 (by kernel_rfl) (by kernel_rfl) (by kernel_rfl) (by kernel_rfl)
  have h7 := @run_callFunc_extern Tryd.prog 72 _ (ReflectliteValue.methodAny (ReflectliteValue.valueError "reflectlite.Value.Type" 0) (fun t _ _ _ => ReflectliteType.toType t)) Tryd.func72 (by kernel_rfl) (by kernel_rfl) (by kernel_rfl) (by kernel_rfl)
  have h8 := @run_callFunc_extern Tryd.prog 73 _ (ReflectliteValue.method (ReflectliteValue.valueError "reflectlite.Value.IsNil" 0) ReflectliteValue.isNil) Tryd.func73 (by kernel_rfl) (by kernel_rfl) (by kernel_rfl) (by kernel_rfl)
  have h27 := @run_callFunc_extern Tryd.prog 132 _ (ReflectliteType.abiMethod fun t => do pure (.int .u8 (← Rtype.kind t))) Tryd.func132 (by kernel_rfl) (by kernel_rfl) (by kernel_rfl) (by kernel_rfl)
  have h37 := @run_callFunc_extern Tryd.prog 142 _ (ReflectliteType.method ReflectliteType.elem) Tryd.func142 (by kernel_rfl) (by kernel_rfl) (by kernel_rfl) (by kernel_rfl)
  have h38 := @run_callFunc_extern Tryd.prog 143 _ (ReflectliteType.relation "Implements" ReflectliteType.implements_) Tryd.func143 (by kernel_rfl) (by kernel_rfl) (by kernel_rfl) (by kernel_rfl)
  have h10 := @run_callFunc_extern Tryd.prog 97 _ ReflectliteType.typeOf Tryd.func97 (by kernel_rfl) (by kernel_rfl) (by kernel_rfl) (by kernel_rfl)
  have h35 := @run_callFunc_extern Tryd.prog 140 _ (ReflectliteType.relation "AssignableTo" ReflectliteType.assignableTo) Tryd.func140 (by kernel_rfl) (by kernel_rfl) (by kernel_rfl) (by kernel_rfl)
  have h11 := @run_callFunc_extern Tryd.prog 98 _ (ReflectliteValue.method (ReflectliteValue.valueError "reflectlite.Value.Elem" 0) ReflectliteValue.elem) Tryd.func98 (by kernel_rfl) (by kernel_rfl) (by kernel_rfl) (by kernel_rfl)
  have h12 := @run_callFunc_extern Tryd.prog 99 _ ReflectliteValue.set Tryd.func99 (by kernel_rfl) (by kernel_rfl) (by kernel_rfl) (by kernel_rfl)
  have tO := typeOfE
  have mA := methodAssignableTo
  have a25 := assignableE
  have v25 := valueOfE
  have f6 := valueOfT
  have f7 := typeT
  have mK := methodKind
  have mE := methodElem
  have mI := methodImplements
  have k27 := kindT
  have k25 := kindE
  have e27 := elemT
  have i25 := implementsE
  have n8 := isNilT ⟨w.heap.size, 0, none⟩ t ((w.alloc (.cells #[.pointer (some t)] 83)).alloc (.cells #[.pointer (some ⟨5, 83, none⟩), .pointer (some ⟨w.heap.size, 0, none⟩), .int .u64 150] 103)) (by simp)
  have hlt : 0 < w.heap.size := by
    rcases Nat.eq_zero_or_pos w.heap.size with h0 | h
    · simp [World.cell?, h0] at hg
    · exact h
  have hg2 : ((w.alloc (.cells #[.pointer (some t)] 83)).alloc (.cells #[.pointer (some ⟨5, 83, none⟩), .pointer (some ⟨w.heap.size, 0, none⟩), .int .u64 150] 103)).cell? ⟨0, 0, none⟩ = some (.iface 135 (.agg #[.pointer (some ⟨5, 25, none⟩)])) := by
    rw [World.cell?_alloc_lt _ _ ⟨0, 0, none⟩ (by simp), World.cell?_alloc_lt _ _ ⟨0, 0, none⟩ hlt]; exact hg
  have htl : t.block < w.heap.size := by
    rcases Nat.lt_or_ge t.block w.heap.size with h | h
    · exact h
    · simp [World.cell?, Array.getElem?_eq_none h] at ht0
  have el := elemVT ⟨w.heap.size, 0, none⟩ t (((w.alloc (.cells #[.pointer (some t)] 83)).alloc (.cells #[.pointer (some ⟨5, 83, none⟩), .pointer (some ⟨w.heap.size, 0, none⟩), .int .u64 150] 103)).alloc (.cells #[.pointer (some ⟨5, 83, none⟩), .pointer (some ⟨w.heap.size, 0, none⟩), .int .u64 150] 103)) (by rw [World.cell?_alloc_lt _ _ ⟨w.heap.size, 0, none⟩ (by simp; omega)]; simp)
  have st := setE t ⟨w.heap.size + 1 + 1 + 1, 0, none⟩ n old ((((w.alloc (.cells #[.pointer (some t)] 83)).alloc (.cells #[.pointer (some ⟨5, 83, none⟩), .pointer (some ⟨w.heap.size, 0, none⟩), .int .u64 150] 103)).alloc (.cells #[.pointer (some ⟨5, 83, none⟩), .pointer (some ⟨w.heap.size, 0, none⟩), .int .u64 150] 103)).alloc (.cells #[.int .i64 n] 61))
    (by rw [World.cell?_alloc_at _ _ _ _ (by simp)]; rfl)
    (by rw [World.cell?_alloc_lt _ _ t (by simp; omega), World.cell?_alloc_lt _ _ t (by simp; omega), World.cell?_alloc_lt _ _ t (by simp; omega), World.cell?_alloc_lt _ _ t htl]; exact ht0)
    (by rw [World.frozen?_alloc_old _ _ t (by simp; omega), World.frozen?_alloc_old _ _ t (by simp; omega), World.frozen?_alloc_old _ _ t (by simp; omega), World.frozen?_alloc_old _ _ t (Nat.ne_of_lt htl)]; exact hf0)
  go_enter Tryd.func50, Tryd.ntmps50
  go_wp2
  refine wp_loop_rounds 1 ?_
  rw [rounds_succ]
  go_wp2
  go_ret
  exact ⟨rfl, rfl⟩
end As
end Go.Proofs.YtljlnhbndkdlcaaDoor
/- What plain.Told makes of an error: its number. -/
namespace Go.Proofs.YtljlnhbndkdlcaaDoor
open Go.RowKit
set_option linter.unusedVariables false
/-- What plain.Told makes of an error. -/
theorem tell_any {w0 w : World} {R : HProp} (hg : As.Handle w0) (n : Nat) (h : Own w0 R w) :
    Calls Tryd.prog 33 #[errV n] w fun e w' => e = .returned (.int .i64 n) ∧ Own w0 R w' := by
  have HH := Lib.hid h
  cases n with
  | zero =>
    rw [errV0]
    go_enter Tryd.func33, Tryd.ntmps33
    go_wp2
    go_ret
    exact ⟨rfl, HH.out⟩
  | succ n =>
    rw [show errV (n + 1) = .iface 61 (.int .i64 ((n : Int) + 1)) from rfl]
    have hlt : (⟨0, 0, none⟩ : Addr).block < w0.heap.size := World.block_lt_of_cell? _ _ hg
    have hw : As.Handle w := by unfold As.Handle; rw [h.below.cell (p := ⟨0, 0, none⟩) hlt]; exact hg
    have hlw : (⟨0, 0, none⟩ : Addr).block < w.heap.size := World.block_lt_of_cell? _ _ hw
    have hw1 : As.Handle (w.alloc (.cells #[.int .i64 0] 61)) := by unfold As.Handle; rw [World.cell?_alloc_lt _ _ _ hlw]; exact hw
    have HW1 := Lib.hid hw1
    have g1 := (h.alloc (.cells #[.int .i64 0] 61))
    have HC := Lib.hid (g1.cell 0); have HF := Lib.hid (g1.free 0 none)
    clear hw hw1 hlw hlt h g1 hg
    go_enter Tryd.func33, Tryd.ntmps33
    go_wp2_with fail
    refine (As.as_hit _ ⟨w.heap.size, 0, none⟩ (.int .i64 0) _ HW1.out HC.out HF.out).mono ?_
    rintro e w' ⟨rfl, rfl⟩
    go_wp2
    go_ret
    exact ⟨by simp, ((((HH.out.alloc' _).alloc' _).alloc' _).alloc' _).alloc' _⟩
/-- Is an error the one told? -/
theorem sameErr_any {w0 w : World} {R : HProp} (hg : As.Handle w0) (n : Nat) (m : Int) (h : Own w0 R w) :
    Calls Tryd.prog 9 #[errV n, .int .i64 m] w fun e w' => e = .returned (.bool ((n : Int) == m)) ∧ Own w0 R w' := by
  have T := Lib.hid (tell_any hg n h)
  clear hg h
  go_enter Tryd.func9, Tryd.ntmps9
  go_wp2_with fail
  refine (T.out).mono ?_
  rintro e w' ⟨rfl, ho⟩
  have HO := Lib.hid ho
  clear ho
  go_wp2
  go_ret
  exact ⟨rfl, HO.out⟩
end Go.Proofs.YtljlnhbndkdlcaaDoor
/- mootsame.Events of two that are the same. -/
namespace Go.Proofs.YtljlnhbndkdlcaaDoor
set_option linter.unusedVariables false
set_option linter.unusedSimpArgs false
open Go.RowKit
set_option maxRecDepth 100000 in
set_option maxHeartbeats 4000000 in
theorem sameEv_any {w : World} (va vb : Value) (l : List Ev) (ha : Evs w va l) (hb : Evs w vb l) :
    Calls Tryd.prog 26 #[va, vb] w fun e w' => e = .returned (.bool true) ∧ ∃ n, w' = w.drewN n := by
  obtain ⟨ad, cap, rfl, hac, hacap⟩ := ha.shape
  obtain ⟨bd, bcap, rfl, hbc, hbcap⟩ := hb.shape
  obtain ⟨n, hn⟩ : ∃ n, n = l.length := ⟨_, rfl⟩
  rw [← hn] at ha hb hac hbc ⊢
  have hl' : ((n : Int) != (n : Int)) = false := by rw [bne_eq_false_iff_eq]
  have HRA := Lib.hid (ha.reads (R := emp))
  have HRB := Lib.hid (hb.reads (R := emp))
  have HA := Lib.hid ha; have HB := Lib.hid hb; have HN := Lib.hid hn
  clear ha hb hn
  go_enter Tryd.func26, Tryd.ntmps26
  go_wp2_with fail
  go_loopw [5] (fun iv wr => ∃ k : Nat, k ≤ n ∧ iv = .int .i64 k ∧ Hid (∃ j, wr = w.drewN j)) (fun iv _ => n - (intOf iv).toNat)
  case atStart => exact ⟨0, Nat.zero_le _, rfl, Lib.hid ⟨0, rfl⟩⟩
  case round =>
    obtain ⟨k, hk, rfl, hp⟩ := hrel
    obtain ⟨j, rfl⟩ := hp.out
    by_cases hlt : k < n
    rotate_left
    · have hkn : k = n := by omega
      subst hkn
      go_wp2
      go_ret
      exact ⟨rfl, _, rfl⟩
    obtain ⟨a, eb, eo, es, rfl, e1, hc, _⟩ := HRA.out.at (Own.start w) k (by rw [← HN.out]; exact hlt)
    obtain ⟨a', eb', eo', es', rfl, e1', hc', _⟩ := HRB.out.at (Own.start w) k (by rw [← HN.out]; exact hlt)
    obtain ⟨x, hx⟩ : ∃ x, x = evAt l k := ⟨_, rfl⟩
    rw [← hx] at hc hc'
    obtain ⟨c0, c1, c2⟩ := hc _ (Own.start w)
    obtain ⟨c0', c1', c2'⟩ := hc' _ (Own.start w)
    clear hc hc'
    have HX := Lib.hid hx
    clear hx
    go_wp2_with fail
    go_quiet (fail)
    go_wp2
    go_roundw
    case rel => exact ⟨k + 1, by omega, by go_num, Lib.hid ⟨_, rfl⟩⟩
    case measure => simp [intOf]; omega
end Go.Proofs.YtljlnhbndkdlcaaDoor
/- The reference's history: which event is wrong, and how. -/
namespace Go.Proofs.YtljlnhbndkdlcaaDoor
set_option linter.unusedVariables false
set_option linter.unusedSimpArgs false
open Go.RowKit
/-- Who said a word, or nobody. -/
def byOf (l : List Ev) (w : Int) : Int := if 0 ≤ saidAt l w then (evAt l (saidAt l w).toNat).1 else -1
theorem byOf_nil (w : Int) : byOf [] w = -1 := rfl
theorem whereI_snoc_old {α : Type} (p : α → Bool) (l : List α) (x : α) (h : 0 ≤ whereI p l) : whereI p (l ++ [x]) = whereI p l := by
  rcases whereI_cases p l with ⟨h1, _⟩ | ⟨k, hk, h1, h2, h3⟩
  · omega
  · rw [h1]
    refine whereI_hit p _ k (by simp; omega) (fun j hj => ?_) ?_
    · rw [List.getElem_append_left (by omega)]; exact h3 j hj
    · rw [List.getElem_append_left hk]; exact h2
theorem whereI_snoc_new {α : Type} (p : α → Bool) (l : List α) (x : α) (h : whereI p l < 0) : whereI p (l ++ [x]) = if p x = true then (l.length : Int) else -1 := by
  rcases whereI_cases p l with ⟨_, h2⟩ | ⟨k, hk, h1, _⟩
  · by_cases hx : p x = true
    · rw [if_pos hx]
      refine whereI_hit p _ l.length (by simp) (fun j hj => ?_) (by simpa using hx)
      rw [List.getElem_append_left hj]; exact h2 _ (List.getElem_mem hj)
    · rw [if_neg hx]
      refine whereI_miss p _ (fun j hj => ?_)
      rw [List.length_append, List.length_singleton] at hj
      by_cases hjl : j < l.length
      · rw [List.getElem_append_left hjl]; exact h2 _ (List.getElem_mem hjl)
      · have : j = l.length := by omega
        subst this
        simp only [List.getElem_concat_length]
        simpa using hx
  · omega
theorem evAt_snoc (l : List Ev) (x : Ev) (k : Nat) : evAt (l ++ [x]) k = if k < l.length then evAt l k else if k = l.length then x else (0, 0, 0) := by
  unfold evAt
  rw [List.getD_eq_getElem?_getD]
  by_cases h : k < l.length
  · rw [if_pos h, List.getElem?_append_left h, List.getD_eq_getElem?_getD]
  · rw [if_neg h, List.getElem?_append_right (by omega)]
    by_cases h2 : k = l.length
    · rw [if_pos h2]; subst h2; simp
    · rw [if_neg h2, List.getElem?_eq_none (by simp; omega)]; rfl
theorem saidAt_lt (l : List Ev) (w : Int) (h : 0 ≤ saidAt l w) : (saidAt l w).toNat < l.length := by
  unfold saidAt at h ⊢
  rcases whereI_cases (saysB w) l with ⟨h1, _⟩ | ⟨k, hk, h1, _⟩
  · omega
  · rw [h1]; simpa using hk
theorem byOf_snoc {l : List Ev} {x : Ev} (w : Int) (hr : evErr l x = 0) : byOf (l ++ [x]) w = if saysB w x = true then x.1 else byOf l w := by
  unfold byOf
  by_cases h0 : 0 ≤ saidAt l w
  · have e : saidAt (l ++ [x]) w = saidAt l w := whereI_snoc_old _ l x h0
    have hlt := saidAt_lt l w h0
    rw [e, if_pos h0, if_pos h0, evAt_snoc, if_pos hlt, if_neg]
    intro hs
    unfold saysB at hs
    simp only [Bool.and_eq_true, decide_eq_true_eq] at hs
    unfold evErr at hr
    by_cases h1 : rightB x = false
    · rw [if_pos h1] at hr; cases hr
    rw [if_neg h1, if_pos (.inl ⟨hs.1, by rw [hs.2]; exact h0⟩)] at hr
    cases hr
  · have e : saidAt (l ++ [x]) w = if saysB w x = true then (l.length : Int) else -1 := whereI_snoc_new _ l x (by unfold saidAt at h0; omega)
    rw [e, if_neg h0]
    by_cases hs : saysB w x = true
    · rw [if_pos hs, if_pos hs, if_pos (by omega), evAt_snoc, Int.toNat_natCast, if_neg (by omega), if_pos rfl]
    · rw [if_neg hs, if_neg hs, if_neg (by omega)]
theorem byOf_step {h : List Ev} {k : Nat} (w : Int) (hk : k < h.length) (hr : evErr (h.take k) (evAt h k) = 0) : byOf (h.take (k + 1)) w = if saysB w (evAt h k) = true then (evAt h k).1 else byOf (h.take k) w := by
  have hev : evAt h k = h[k] := by unfold evAt; rw [List.getD_eq_getElem?_getD, List.getElem?_eq_getElem hk]; rfl
  rw [hev] at hr ⊢
  rw [List.take_succ_eq_append_getElem hk]
  exact byOf_snoc w hr
theorem byOf_I64 {h : List Ev} (hg : ∀ e ∈ h, goodEv e) (w : Int) : I64 (byOf h w) := by
  unfold byOf
  by_cases h0 : 0 ≤ saidAt h w
  · rw [if_pos h0]
    have hlt := saidAt_lt h w h0
    unfold evAt
    rw [List.getD_eq_getElem?_getD, List.getElem?_eq_getElem hlt]
    exact (hg _ (List.getElem_mem hlt)).1
  · rw [if_neg h0]; unfold I64; omega
theorem saidAt_neg' {l : List Ev} {w : Int} : ¬ 0 ≤ saidAt l w → saidAt l w = -1 := fun h => by
  unfold saidAt at h ⊢
  rcases whereI_cases (saysB w) l with ⟨h1, _⟩ | ⟨k, hk, h1, _⟩
  · exact h1
  · omega
/-- A right event ahead has its who among the members. -/
theorem byOf_pos {l : List Ev} (hr : ∀ k (hk : k < l.length), rightB l[k] = true) (w : Int) : (0 ≤ byOf l w ↔ 0 ≤ saidAt l w) := by
  unfold byOf
  by_cases h0 : 0 ≤ saidAt l w
  · rw [if_pos h0]
    have hlt := saidAt_lt l w h0
    unfold evAt
    rw [List.getD_eq_getElem?_getD, List.getElem?_eq_getElem hlt]
    have := hr _ hlt
    unfold rightB isMember at this
    simp only [Bool.and_eq_true, decide_eq_true_eq] at this
    exact ⟨fun _ => h0, fun _ => this.1.1⟩
  · rw [if_neg h0]
    exact ⟨fun h => by omega, fun h => absurd h h0⟩
end Go.Proofs.YtljlnhbndkdlcaaDoor
/- The reference's history, continued: the words said ahead of an event. -/
namespace Go.Proofs.YtljlnhbndkdlcaaDoor
set_option linter.unusedVariables false
set_option linter.unusedSimpArgs false
open Go.RowKit
noncomputable def rhIn_code : Code := ((Tryd.f37.body.bind (findBlock 2)).getD .skip)
set_option maxRecDepth 1000000 in
set_option maxHeartbeats 4000000 in
theorem rhIn {Q : Exit → Act → World → Prop} {u1 u2 u3 u8 u9 u10 u11 u12 u13 u14 u15 u16 u17 u18 u19 u20 u21 u22 u23 u24 u25 u26 u27 u28 u29 u30 u31 u32 u33 u34 u35 u36 u37 u38 u39 u40 u41 u42 u43 u44 u45 u46 u47 u48 u49 u50 u51 u52 u53 u54 u55 u56 u57 u58 u59 u60 u61 u62 u63 u64 u65 u66 u67 u68 u69 u70 u71 u72 u73 u74 u75 u76 u77 u78 u79 u80 u81 u82 u83 u84 u85 u86 u87 u88 u89 u90 u91 u92 u93 u94 u95 u96 u97 u98 u99 u100 u101 u102 u103 u104 u105 u106 u107 u108 u109 u110 u111 u112 u113 u114 u115 u116 u117 u118 u119 u120 u121 u122 u123 u124 u125 u126 u127 u128 u129 u130 : Value} {w1 : World} (w : World) (R : HProp) (eb n i hcap : Nat) (had : Option Addr) (hs : List Ev) (x : Ev) (hi : i < n) (hn : n ≤ 60) (hc1 : n ≤ hcap) (hc2 : hcap ≤ 9223372036854775807) (HLN : Hid (hs.length = n)) (HX : Hid (x.2.1 = 3 → x ∉ hs.take i)) (HRT : Hid (∀ j, j < i → evErr (hs.take j) (evAt hs j) = 0)) (HV : Hid (ReadsE w R (.slice had n hcap) hs)) (HP : Hid (Own w (EvO eb x * R) w1))
    (hK : ∀ (v2 v3 v6 v7 v67 v68 v69 v70 v71 v72 v73 v74 v75 v76 v77 v78 v79 v80 v81 v82 v83 v84 v85 v86 v87 v88 v89 v90 v91 v92 v93 v94 v95 v96 v97 v98 v99 v100 v101 v102 v103 v104 : Value) (wx : World), (v6 = .int .i64 (byOf (hs.take i) x.2.2) ∧ Own w (EvO eb x * R) wx) → Q .normal ⟨List.toArray ((.slice had n hcap) :: u1 :: v2 :: v3 :: (.int .i64 (i : Int)) :: (.pointer (some ⟨eb, 0, none⟩)) :: v6 :: v7 :: u8 :: u9 :: u10 :: u11 :: u12 :: u13 :: u14 :: u15 :: u16 :: u17 :: u18 :: u19 :: u20 :: u21 :: u22 :: u23 :: u24 :: u25 :: u26 :: u27 :: u28 :: u29 :: u30 :: u31 :: u32 :: u33 :: u34 :: u35 :: u36 :: u37 :: u38 :: u39 :: u40 :: u41 :: u42 :: u43 :: u44 :: u45 :: u46 :: u47 :: u48 :: u49 :: u50 :: u51 :: u52 :: u53 :: u54 :: u55 :: u56 :: u57 :: u58 :: u59 :: u60 :: u61 :: u62 :: u63 :: u64 :: u65 :: u66 :: v67 :: v68 :: v69 :: v70 :: v71 :: v72 :: v73 :: v74 :: v75 :: v76 :: v77 :: v78 :: v79 :: v80 :: v81 :: v82 :: v83 :: v84 :: v85 :: v86 :: v87 :: v88 :: v89 :: v90 :: v91 :: v92 :: v93 :: v94 :: v95 :: v96 :: v97 :: v98 :: v99 :: v100 :: v101 :: v102 :: v103 :: v104 :: u105 :: u106 :: u107 :: u108 :: u109 :: u110 :: u111 :: u112 :: u113 :: u114 :: u115 :: u116 :: u117 :: u118 :: u119 :: u120 :: u121 :: u122 :: u123 :: u124 :: u125 :: u126 :: u127 :: u128 :: u129 :: u130 :: []), []⟩ wx) :
    Code.wp Tryd.prog rhIn_code Q ⟨List.toArray ((.slice had n hcap) :: u1 :: u2 :: u3 :: (.int .i64 (i : Int)) :: (.pointer (some ⟨eb, 0, none⟩)) :: (.int .i64 (-1)) :: (.int .i64 0) :: u8 :: u9 :: u10 :: u11 :: u12 :: u13 :: u14 :: u15 :: u16 :: u17 :: u18 :: u19 :: u20 :: u21 :: u22 :: u23 :: u24 :: u25 :: u26 :: u27 :: u28 :: u29 :: u30 :: u31 :: u32 :: u33 :: u34 :: u35 :: u36 :: u37 :: u38 :: u39 :: u40 :: u41 :: u42 :: u43 :: u44 :: u45 :: u46 :: u47 :: u48 :: u49 :: u50 :: u51 :: u52 :: u53 :: u54 :: u55 :: u56 :: u57 :: u58 :: u59 :: u60 :: u61 :: u62 :: u63 :: u64 :: u65 :: u66 :: u67 :: u68 :: u69 :: u70 :: u71 :: u72 :: u73 :: u74 :: u75 :: u76 :: u77 :: u78 :: u79 :: u80 :: u81 :: u82 :: u83 :: u84 :: u85 :: u86 :: u87 :: u88 :: u89 :: u90 :: u91 :: u92 :: u93 :: u94 :: u95 :: u96 :: u97 :: u98 :: u99 :: u100 :: u101 :: u102 :: u103 :: u104 :: u105 :: u106 :: u107 :: u108 :: u109 :: u110 :: u111 :: u112 :: u113 :: u114 :: u115 :: u116 :: u117 :: u118 :: u119 :: u120 :: u121 :: u122 :: u123 :: u124 :: u125 :: u126 :: u127 :: u128 :: u129 :: u130 :: []), []⟩ w1 := by
  conv => arg 2; whnf
  have HK := Lib.hid hK
  clear hK
  go_wp2_with fail
  go_loopw [7, 6] (fun kv bv wr => ∃ k : Nat, k ≤ i ∧ kv = .int .i64 k ∧ bv = .int .i64 (byOf (hs.take k) x.2.2) ∧ Hid (Own w (EvO eb x * R) wr)) (fun kv _ _ => i - (intOf kv).toNat)
  case atStart => exact ⟨0, Nat.zero_le _, rfl, rfl, HP⟩
  case round =>
    clear HP
    obtain ⟨k, hk, rfl, rfl, HO⟩ := hrel
    by_cases hlt : k < i
    rotate_left
    · have hki : k = i := by omega
      subst hki
      go_wp2_with fail
      apply HK.out
      exact ⟨rfl, HO.out⟩
    have hkl : k < hs.length := by rw [HLN.out]; omega
    have hstep := byOf_step x.2.2 hkl (HRT.out k hlt)
    obtain ⟨B0, hB0⟩ : ∃ B, B = byOf (hs.take k) x.2.2 := ⟨_, rfl⟩
    obtain ⟨B1, hB1⟩ : ∃ B, B = byOf (hs.take (k + 1)) x.2.2 := ⟨_, rfl⟩
    rw [← hB0, ← hB1] at hstep
    rw [← hB0]
    obtain ⟨aa, pb, po, ps, rfl, hea, hcs, _⟩ := HV.out.more.at HO.out k hkl
    have hne : x.2.1 = 3 → evAt hs k ≠ x := fun h3 he => by
      apply HX.out h3
      rw [← he, List.mem_take_iff_getElem]
      refine ⟨k, by omega, ?_⟩
      unfold evAt
      rw [List.getD_eq_getElem?_getD, List.getElem?_eq_getElem hkl]; rfl
    obtain ⟨y, hy⟩ : ∃ y, y = evAt hs k := ⟨_, rfl⟩
    rw [← hy] at hcs hstep hne
    obtain ⟨c0, c1, c2⟩ := hcs _ HO.out
    obtain ⟨e0, e1, e2⟩ := HO.out.ev
    obtain ⟨x1, x2, x3⟩ := x
    obtain ⟨y1, y2, y3⟩ := y
    simp only at c0 c1 c2 e0 e1 e2 hstep hne hB0 hB1
    obtain ⟨S, hS⟩ : ∃ S, S = saysB x3 (y1, y2, y3) := ⟨_, rfl⟩
    have hS2 : S = (decide (y2 = 2) && decide (y3 = x3)) := hS
    rw [← hS] at hstep
    have i0 : (0 : Int) ≤ (k : Int) := by omega
    have i1 : (k : Int) < (n : Int) := by omega
    have i2 : (k : Int) < (i : Int) := by omega
    clear hS
    have HB0 := Lib.hid hB0; have HB1 := Lib.hid hB1; have HCS := Lib.hid hcs; have HY := Lib.hid hy; have HSTEP := Lib.hid hstep; have HS2 := Lib.hid hS2; have HNE := Lib.hid hne
    clear hB0 hB1 hcs hy hstep hS2 hne
    go_wp2_with fail
    go_upto_region 16 with fail
    go_cut [87] from 72 to 87 (fun c wx => c = .bool S ∧ Own w (EvO eb (x1, x2, x3) * R) wx)
    case first =>
      by_cases a1 : y2 = 2
      rotate_left
      · have t1 : (y2 == 2) = false := by rw [beq_eq_false_iff_ne]; exact a1
        have hs1 : S = false := by rw [HS2.out]; simp [a1]
        have A1 := Lib.hid a1; have HS1 := Lib.hid hs1
        clear a1 hs1
        go_wp2_with fail
        go_quiet (fail)
        go_wp2_with fail
        go_meet
        exact ⟨by rw [HS1.out], HO.out.drewN _⟩
      subst a1
      by_cases a2 : y3 = x3
      · have hs1 : S = true := by rw [HS2.out]; simp [a2]
        subst a2
        have HS1 := Lib.hid hs1
        clear hs1
        go_wp2_with fail
        go_quiet (fail)
        go_wp2_with fail
        go_meet
        exact ⟨by rw [HS1.out], HO.out.drewN _⟩
      · have t2 : (y3 == x3) = false := by rw [beq_eq_false_iff_ne]; exact a2
        have hs1 : S = false := by rw [HS2.out]; simp [a2]
        have A2 := Lib.hid a2; have HS1 := Lib.hid hs1
        clear a2 hs1
        go_wp2_with fail
        go_quiet (fail)
        go_wp2_with fail
        go_meet
        exact ⟨by rw [HS1.out], HO.out.drewN _⟩
    case rest =>
    obtain ⟨rfl, ho⟩ := hcut
    clear HO e0 e1 e2 c0 c1 c2
    have HO2 := Lib.hid ho
    clear ho
    obtain ⟨c0, c1, c2⟩ := HCS.out _ HO2.out
    obtain ⟨e0, e1, e2⟩ := HO2.out.ev
    simp only at e0 e1 e2
    go_upto_if 87 with fail
    go_cut [6] from 88 to 92 (fun bv wx => bv = .int .i64 B1 ∧ wx = wc)
    case first =>
      cases S
      · have h1 : B1 = B0 := by rw [HSTEP.out]; rfl
        have H1 := Lib.hid h1
        clear h1
        go_wp2_with fail
        go_meet
        exact ⟨by rw [H1.out], rfl⟩
      · have h1 : B1 = y1 := by rw [HSTEP.out]; rfl
        have H1 := Lib.hid h1
        clear h1
        go_wp2_with fail
        go_meet
        exact ⟨by rw [H1.out], rfl⟩
    case rest =>
    obtain ⟨rfl, rfl⟩ := hcut
    go_upto_region 18 with fail
    go_cut [103] from 93 to 103 (fun c wx => c = .bool false ∧ Own w (EvO eb (x1, x2, x3) * R) wx)
    case first =>
      by_cases a1 : x2 = 3
      rotate_left
      · have t1 : (x2 == 3) = false := by rw [beq_eq_false_iff_ne]; exact a1
        have A1 := Lib.hid a1
        clear a1
        go_wp2_with fail
        go_quiet (fail)
        go_wp2_with fail
        go_meet
        exact ⟨rfl, HO2.out.drewN _⟩
      subst a1
      have hne := HNE.out rfl
      by_cases b1 : y1 = x1
      rotate_left
      · have t1 : (y1 == x1) = false := by rw [beq_eq_false_iff_ne]; exact b1
        have B1 := Lib.hid b1; have HNE := Lib.hid hne
        clear b1 hne
        go_wp2_with fail
        go_quiet (fail)
        go_wp2_with fail
        go_meet
        exact ⟨rfl, HO2.out.drewN _⟩
      by_cases b2 : y2 = 3
      rotate_left
      · have t1 : (y2 == 3) = false := by rw [beq_eq_false_iff_ne]; exact b2
        subst b1
        have B2 := Lib.hid b2; have HNE := Lib.hid hne
        clear b2 hne
        go_wp2_with fail
        go_quiet (fail)
        go_wp2_with fail
        go_meet
        exact ⟨rfl, HO2.out.drewN _⟩
      have b3 : ¬ y3 = x3 := fun b3 => hne (by rw [b1, b2, b3])
      have t1 : (y3 == x3) = false := by rw [beq_eq_false_iff_ne]; exact b3
      subst b1 b2
      have B3 := Lib.hid b3; have HNE := Lib.hid hne
      clear b3 hne
      go_wp2_with fail
      go_quiet (fail)
      go_wp2_with fail
      go_meet
      exact ⟨rfl, HO2.out.drewN _⟩
    case rest =>
    obtain ⟨rfl, ho⟩ := hcut
    have HO3 := Lib.hid ho
    clear ho HO2 e0 e1 e2 c0 c1 c2
    go_wp2_with fail
    go_roundw
    case rel => exact ⟨k + 1, by omega, by go_num, by rw [HB1.out], HO3⟩
    case measure => simp [intOf]; omega
end Go.Proofs.YtljlnhbndkdlcaaDoor
