/- Contracts of package history, continued: Past. -/
import Derived.Test.YtgjjilehpgnjhaaDoorMHistoryTells7
import Derived.Test.YtgjjilehpgnjhaaDoorMHistoryTells2
import Derived.LaidEql
import Derived.Stop.Asserts
import Derived.RowKitTokens
import Derived.Test.YtgjjilehpgnjhaaDoorMHistoryTells10
namespace Go.Proofs.YtgjjilehpgnjhaaDoor
set_option linter.unusedVariables false
set_option linter.unusedSimpArgs false
open Go.RowKit
def pastErr (hs : List Ev) (i : Int) : Nat := if (histR hs).2 ≠ 0 then (histR hs).2 else if insideB hs.length i then 1 else 0
def pastL (hs : List Ev) (i k : Nat) : List Int := ((List.range k).filter fun j => bef hs i j).map fun j : Nat => (j : Int)
def pastE (hs : List Ev) (i : Int) : List Int := if pastErr hs i = 0 then pastL hs i.toNat hs.length else []
theorem pastL_zero (hs : List Ev) (i : Nat) : pastL hs i 0 = [] := rfl
theorem pastL_step (hs : List Ev) (i k : Nat) : pastL hs i (k + 1) = if bef hs i k = true then pastL hs i k ++ [(k : Int)] else pastL hs i k := by
  unfold pastL
  rw [List.range_succ, List.filter_append, List.map_append]
  cases h : bef hs i k
  · rw [List.filter_cons_of_neg (by rw [h]; simp), if_neg (by simp)]; simp
  · rw [List.filter_cons_of_pos h, if_pos rfl]; rfl
theorem pastL_len (hs : List Ev) (i k : Nat) : (pastL hs i k).length ≤ k := by
  unfold pastL
  rw [List.length_map]
  exact Nat.le_trans (List.length_filter_le _ _) (by simp)
theorem pastL_I64 {hs : List Ev} {i k : Nat} (hk : k ≤ 60) : ∀ x ∈ pastL hs i k, I64 x := by
  intro x hx
  unfold pastL at hx
  obtain ⟨j, hj, rfl⟩ := List.mem_map.1 hx
  have := List.mem_range.1 (List.mem_filter.1 hj).1
  unfold I64; omega
set_option maxRecDepth 100000 in
set_option maxHeartbeats 4000000 in
theorem hPast_any {w0 w : World} {R : HProp} (v : Value) (hs : List Ev) (i : Int) (hi : I64 i) (h : Own w0 R w) (hv : ReadsE w0 R v hs) :
    Calls Tryd.prog 15 #[v, .int .i64 i] w fun e w' => ∃ v', e = .returned (.tuple #[v', errV (pastErr hs i)]) ∧ Own w0 (IntSl v' (pastE hs i) * R) w' := by
  obtain ⟨had, hcap, rfl, hc1, hc2⟩ := (hv _ h).shape
  obtain ⟨E, hE⟩ : ∃ E, E = (histR hs).2 := ⟨_, rfl⟩
  by_cases h0 : E = 0
  rotate_left
  · have hB : pastErr hs i = E := by unfold pastErr; rw [if_pos (by rw [← hE]; exact h0), ← hE]
    have hb_ : pastE hs i = [] := by unfold pastE; rw [if_neg (by rw [hB]; exact h0)]
    have hee := errV_ne h0
    have H := Lib.hid h; have HV := Lib.hid hv; have HE := Lib.hid hE; have H0 := Lib.hid h0; have HEE := Lib.hid hee; have HB := Lib.hid hB; have HB_ := Lib.hid hb_
    clear h hv hE h0 hee hB hb_
    go_enter Tryd.func15, Tryd.ntmps15
    go_wp2_with fail
    refine (hRight_any _ hs H.out HV.out).mono ?_
    rintro e w2 ⟨rfl, ho⟩
    rw [← HE.out, HEE.out]
    have HO2 := Lib.hid ho
    clear ho
    go_wp2
    go_ret2
    exact ⟨_, by rw [HB.out]; exact congrArg (fun z => Ending.returned (.tuple #[_, z])) HEE.out.symm, by rw [HB_.out]; exact HO2.out.sl_nil _ _⟩
  have hee : errV E = .nilIface := by rw [h0]; rfl
  have hlen : hs.length ≤ 60 := ((histR_ok hs).1 (by rw [← hE]; exact h0)).1
  have HE := Lib.hid hE; have HEE := Lib.hid hee
  have hB : pastErr hs i = if insideB hs.length i then 1 else 0 := by unfold pastErr; rw [if_neg (by rw [← hE]; simpa using h0)]
  clear hE hee
  have hin : ([i].any (insideB hs.length)) = insideB hs.length i := by simp
  obtain ⟨X, hX⟩ : ∃ X, X = insideB hs.length i := ⟨_, rfl⟩
  rw [← hX] at hin hB
  cases X
  rotate_left
  · have hb_ : pastE hs i = [] := by unfold pastE; rw [if_neg (by rw [hB]; simp)]
    rw [if_pos rfl] at hB
    have H := Lib.hid h; have HV := Lib.hid hv; have H0 := Lib.hid h0; have HB := Lib.hid hB; have HB_ := Lib.hid hb_; have HX := Lib.hid hX; have HIN := Lib.hid hin
    clear h hv h0 hB hb_ hX hin
    go_enter Tryd.func15, Tryd.ntmps15
    go_wp2_with fail
    refine (hRight_any _ hs H.out HV.out).mono ?_
    rintro e w2 ⟨rfl, ho⟩
    rw [← HE.out, HEE.out]
    obtain ⟨b1, hb_b1⟩ : ∃ zz_, zz_ = (w2).heap.size := ⟨_, rfl⟩
    obtain ⟨w1, hw_w1⟩ : ∃ zz_, zz_ = (w2).alloc (.cells #[.int .i64 i] 3 (0, 0)) := ⟨_, rfl⟩
    have h_HO1 := (ho).alloc (.cells #[.int .i64 i] 3 (0, 0))
    rw [← hb_b1, ← hw_w1] at h_HO1
    have HO1 := Lib.hid h_HO1
    clear h_HO1
    clear ho
    have HR : Hid (Reads w0 (blk b1 (.cells #[.int .i64 i] 3 (0, 0)) * R) (.slice (some ⟨b1, 0, none⟩) 1 1) [i]) := Lib.hid (fun w' ho => ⟨Rd_one (cs := [.int .i64 i]) (fun j u hu => by rw [cell_of_heap ho.blk_at.1]; simpa using hu) (by simp) (by unfold maxLen; simp), by intro x hx; simp at hx; subst hx; assumption⟩)
    go_wp2_with fail
    rw [← hb_b1, ← hw_w1]
    clear hb_b1 hw_w1
    refine (inside_any _ _ hs [i] HO1.out HV.out.more HR.out).mono ?_
    rintro e w3 ⟨rfl, ho⟩
    rw [HIN.out]
    have HO2 := Lib.hid ho.drop
    clear ho
    go_wp2
    go_ret2
    exact ⟨_, by rw [HB.out]; rfl, by rw [HB_.out]; exact HO2.out.sl_nil _ _⟩
  · rw [if_neg (by simp)] at hB
    obtain ⟨i1, i2⟩ := insideB_no hX.symm
    obtain ⟨a, rfl⟩ : ∃ a : Nat, i = (a : Int) := ⟨i.toNat, by omega⟩
    obtain ⟨n, hn⟩ : ∃ n, n = hs.length := ⟨_, rfl⟩
    have hb_ : pastE hs a = pastL hs a n := by unfold pastE; rw [hB, if_pos rfl, hn]; rfl
    have h6 := (fun w4 (ho : Own w0 R w4) => hPasts_any (.slice had hs.length hcap) hs ho hv hlen)
    rw [← hn] at i2 hlen hv h6 hc1
    rw [← hn]
    have H := Lib.hid h; have HV := Lib.hid hv; have H0 := Lib.hid h0; have HB := Lib.hid hB; have HB_ := Lib.hid hb_; have HX := Lib.hid hX; have HIN := Lib.hid hin; have HN := Lib.hid hn; have H6 := Lib.hid h6
    clear h hv h0 hB hb_ hX hin hn h6
    go_enter Tryd.func15, Tryd.ntmps15
    go_wp2_with fail
    refine (hRight_any _ hs H.out HV.out).mono ?_
    rintro e w2 ⟨rfl, ho⟩
    rw [← HE.out, HEE.out]
    obtain ⟨b1, hb_b1⟩ : ∃ zz_, zz_ = (w2).heap.size := ⟨_, rfl⟩
    obtain ⟨w1, hw_w1⟩ : ∃ zz_, zz_ = (w2).alloc (.cells #[.int .i64 (a : Int)] 3 (0, 0)) := ⟨_, rfl⟩
    have h_HO1 := (ho).alloc (.cells #[.int .i64 (a : Int)] 3 (0, 0))
    rw [← hb_b1, ← hw_w1] at h_HO1
    have HO1 := Lib.hid h_HO1
    clear h_HO1
    clear ho
    have HR : Hid (Reads w0 (blk b1 (.cells #[.int .i64 (a : Int)] 3 (0, 0)) * R) (.slice (some ⟨b1, 0, none⟩) 1 1) [(a : Int)]) := Lib.hid (fun w' ho => ⟨Rd_one (cs := [.int .i64 (a : Int)]) (fun j u hu => by rw [cell_of_heap ho.blk_at.1]; simpa using hu) (by simp) (by unfold maxLen; simp), by intro x hx; simp at hx; subst hx; assumption⟩)
    go_wp2_with fail
    rw [← hb_b1, ← hw_w1]
    clear hb_b1 hw_w1
    refine (inside_any _ _ hs [(a : Int)] HO1.out HV.out.more HR.out).mono ?_
    rintro e w3 ⟨rfl, ho⟩
    rw [HIN.out]
    have HO2 := Lib.hid ho.drop
    clear ho
    go_wp2_with fail
    refine (H6.out _ HO2.out).mono ?_
    rintro e w4 ⟨rb, rs, rfl, hm, ho⟩
    have hrow : (pastsR hs n)[a]? = some ((pastsR hs n).getD a []) := by
      rw [List.getD_eq_getElem?_getD, List.getElem?_eq_getElem (by rw [pastsR_len]; omega)]; rfl
    obtain ⟨cv, hcv⟩ := map_at hm hrow
    obtain ⟨r, hr⟩ : ∃ r, r = (pastsR hs n).getD a [] := ⟨_, rfl⟩
    have hrl : r.length = n := by
      rw [hr, pastsR_row hs n _ (by rw [List.getD_eq_getElem?_getD, List.getElem?_eq_getElem (by rw [pastsR_len]; omega)]; exact List.getElem_mem _)]
      exact HN.out.symm
    rw [← hr] at hcv
    have hrb : ∀ k, k < n → r[k]? = some (bef hs a k) := fun k hk => by unfold bef; rw [← HN.out, ← hr, List.getD_eq_getElem?_getD, List.getElem?_eq_getElem (by omega)]; rfl
    obtain ⟨cb, co, ccap, rfl⟩ := ho.bt_shape hcv (by omega)
    obtain ⟨_, g2, g3, _, _, _⟩ := ho.bt_put hcv rfl (by omega)
    have c1 := ho.bt_cell hcv
    rw [hrl] at c1 g2
    have a0 : (0 : Int) ≤ (a : Int) := by omega
    have HO4 := Lib.hid ho
    clear ho hm hrow hr
    have HCV := Lib.hid hcv
    clear hcv
    have HRB := Lib.hid hrb; have HRL := Lib.hid hrl
    clear hrb hrl
    go_wp2_with fail
    go_loopw [27, 7] (fun kv ov wr => ∃ k : Nat, k ≤ n ∧ kv = .int .i64 k ∧ Hid (Own w0 (IntSl ov (pastL hs a k) * (BTab rb n rs * R)) wr)) (fun kv _ _ => n - (intOf kv).toNat)
    case atStart => exact ⟨0, Nat.zero_le _, rfl, Lib.hid (by rw [pastL_zero]; exact HO4.out.sl_nil _ _)⟩
    case round =>
      clear HO4 c1
      obtain ⟨k, hk, rfl, HO⟩ := hrel
      by_cases hlt : k < n
      rotate_left
      · have hkn : k = n := by omega
        subst hkn
        have HF := Lib.hid (HO.out.perm (show _ = BTab rb k rs * (IntSl u7 (pastL hs a k) * R) by ac_rfl)).drop
        go_wp2
        go_ret2
        exact ⟨_, by rw [HB.out]; rfl, by rw [HB_.out]; exact HF.out⟩
      obtain ⟨_, _, _, _, g5, _⟩ := HO.out.drop.bt_put HCV.out rfl (by rw [HRL.out]; omega)
      have d1 := g5 k _ (HRB.out k hlt)
      have hst := pastL_step hs a k
      obtain ⟨z, hz⟩ : ∃ z, z = bef hs a k := ⟨_, rfl⟩
      rw [← hz] at d1 hst
      obtain ⟨out, hout⟩ : ∃ out, out = pastL hs a k := ⟨_, rfl⟩
      have hol : out.length ≤ 60 := by rw [hout]; have := pastL_len hs a k; omega
      have ho := HO.out
      rw [← hout] at ho hst
      have k0 : (0 : Int) ≤ (k : Int) := by omega
      have kn : (k : Int) < (n : Int) := by omega
      clear g5
      cases z
      · have hs2 : pastL hs a (k + 1) = out := by rw [hst]; rfl
        have HN2 : Hid (Own w0 (IntSl u7 (pastL hs a (k + 1)) * (BTab rb n rs * R)) wr) := Lib.hid (by rw [hs2]; exact ho)
        have HST := Lib.hid hst; have HZ := Lib.hid hz; have HOUT := Lib.hid hout; have HO := Lib.hid ho; have HS2 := Lib.hid hs2
        clear hst hz hout ho hs2
        go_wp2_with fail
        go_roundw
        case rel => exact ⟨k + 1, by omega, by go_num, HN2⟩
        case measure => simp [intOf]; omega
      · have hs2 : pastL hs a (k + 1) = out ++ [(k : Int)] := by rw [hst]; rfl
        have HA : Hid (Own w0 (Sl 3 1 u7 out.length (out.map (Value.int .i64)) * (BTab rb n rs * R)) wr) := Lib.hid ho
        have HST := Lib.hid hst; have HZ := Lib.hid hz; have HOUT := Lib.hid hout; have HO := Lib.hid ho; have HS2 := Lib.hid hs2
        clear hst hz hout ho hs2
        go_wp2_with (at_builtin; refine wpList_app rfl _ _ 31 rfl 3 1 8 _ info_int Tryd.underlying31 rfl (by decide) rfl (HA.out.alloc' _) rfl (by rfl) (Rd_lit (by simp) (by unfold maxLen; omega)) (by intro u hu; simp at hu; subst hu; rfl) (by unfold maxLen; omega) (by omega) ?_; intro v' w5 hown; have HN2 : Hid (Own w0 (IntSl v' (pastL hs a (k + 1)) * (BTab rb n rs * R)) w5) := Lib.hid (by rw [HS2.out]; exact hown.perm (show _ = IntSl v' (out ++ [(k : Int)]) * (BTab rb n rs * R) by unfold IntSl; simp)); clear hown)
        go_roundw
        case rel => exact ⟨k + 1, by omega, by go_num, HN2⟩
        case measure => simp [intOf]; omega
end Go.Proofs.YtgjjilehpgnjhaaDoor
/- errors.As at a number of api, and what plain.Told makes of an error: its number. (After the guide's Toyas example, at a target that is a number.) -/
namespace Go.Proofs.YtgjjilehpgnjhaaDoor
open Go.RowKit Go.Extern.Stop Go.Stop Go.Extern
set_option linter.unusedVariables false
namespace As
/-- The variable errors.errorType holds the handle of the type error. -/
def Handle (w : World) : Prop := w.cell? ⟨0, 0, none⟩ = some (.iface 142 (.agg #[.pointer (some ⟨5, 24, none⟩)]))
theorem valueOfT (t : Addr) (w : World) : (ReflectliteValue.unpack (.iface 99 (.pointer (some t)))).run Tryd.prog w
    = .ok (.agg #[.pointer (some ⟨5, 99, none⟩), .pointer (some ⟨w.heap.size, 0, none⟩), .int .u64 150]) (w.alloc (.cells #[.pointer (some t)] 99)) := by kernel_rfl
theorem typeT (a : Addr) (w : World) : (ReflectliteValue.methodAny (ReflectliteValue.valueError "reflectlite.Value.Type" 0) (fun t _ _ _ => ReflectliteType.toType t) #[.agg #[.pointer (some ⟨5, 99, none⟩), .pointer (some a), .int .u64 150]]).run Tryd.prog w
    = .ok (.iface 142 (.agg #[.pointer (some ⟨5, 99, none⟩)])) w := by kernel_rfl
theorem methodKind (h : Value) (w : World) : (Go.method 301 142 (.agg #[h]) "Kind").run Tryd.prog w = .ok (145, h) w := by kernel_rfl
theorem kindT (w : World) : ((ReflectliteType.abiMethod fun t => (fun a : Nat => Value.int IntKind.u8 (a : Int)) <$> Rtype.kind t) #[.pointer (some ⟨5, 99, none⟩)]).run Tryd.prog w = .ok (.int .u8 22) w := by kernel_rfl
theorem kindE (w : World) : ((ReflectliteType.abiMethod fun t => (fun a : Nat => Value.int IntKind.u8 (a : Int)) <$> Rtype.kind t) #[.pointer (some ⟨5, 75, none⟩)]).run Tryd.prog w = .ok (.int .u8 2) w := by kernel_rfl
theorem rlm (z : Sem Value) (f : TypeId → Addr → Nat → Nat → Sem Value) (v : Value) :
    ReflectliteValue.method z f #[v] = (do match ← ReflectliteValue.parts v with | none => z | some (t, a, fl) => f t a fl (fl % 32)) := rfl
theorem partsT (a : Addr) (w : World) : (ReflectliteValue.parts (.agg #[.pointer (some ⟨5, 99, none⟩), .pointer (some a), .int .u64 150])).run Tryd.prog w = .ok (some (99, a, 150)) w := by kernel_rfl
theorem isNilT (a p : Addr) (W : World) (ha : W.cell? a = some (.pointer (some p))) :
    (ReflectliteValue.method (ReflectliteValue.valueError "reflectlite.Value.IsNil" 0) ReflectliteValue.isNil #[.agg #[.pointer (some ⟨5, 99, none⟩), .pointer (some a), .int .u64 150]]).run Tryd.prog W = .ok (.bool false) W := by
  rw [rlm]
  simp only [Sem.run_bind, partsT, Result.andThen]
  simp [ReflectliteValue.isNil, loadVar, isAgg, underlying, Tryd.underlying99, ha, Result.andThen]
theorem methodElem (h : Value) (w : World) : (Go.method 301 142 (.agg #[h]) "Elem").run Tryd.prog w = .ok (155, .agg #[h]) w := by kernel_rfl
theorem methodImplements (h : Value) (w : World) : (Go.method 301 142 (.agg #[h]) "Implements").run Tryd.prog w = .ok (156, .agg #[h]) w := by kernel_rfl
theorem methodAssignableTo (h : Value) (w : World) : (Go.method 301 142 (.agg #[h]) "AssignableTo").run Tryd.prog w = .ok (153, .agg #[h]) w := by kernel_rfl
theorem elemT (w : World) : (ReflectliteType.method ReflectliteType.elem #[.agg #[.pointer (some ⟨5, 99, none⟩)]]).run Tryd.prog w = .ok (.iface 142 (.agg #[.pointer (some ⟨5, 75, none⟩)])) w := by kernel_rfl
theorem implementsE (w : World) : (ReflectliteType.relation "Implements" ReflectliteType.implements_ #[.agg #[.pointer (some ⟨5, 75, none⟩)], .iface 142 (.agg #[.pointer (some ⟨5, 24, none⟩)])]).run Tryd.prog w = .ok (.bool true) w := by kernel_rfl
theorem typeOfE (v : Value) (w : World) : (ReflectliteType.typeOf #[.iface 75 v]).run Tryd.prog w = .ok (.iface 142 (.agg #[.pointer (some ⟨5, 75, none⟩)])) w := by kernel_rfl
theorem assignableE (w : World) : (ReflectliteType.relation "AssignableTo" ReflectliteType.assignableTo #[.agg #[.pointer (some ⟨5, 75, none⟩)], .iface 142 (.agg #[.pointer (some ⟨5, 75, none⟩)])]).run Tryd.prog w = .ok (.bool true) w := by kernel_rfl
theorem valueOfE (n : Int) (w : World) : (ReflectliteValue.unpack (.iface 75 (.int .i64 n))).run Tryd.prog w
    = .ok (.agg #[.pointer (some ⟨5, 75, none⟩), .pointer (some ⟨w.heap.size, 0, none⟩), .int .u64 130]) (w.alloc (.cells #[.int .i64 n] 75)) := by kernel_rfl
theorem elemOfT (w : World) : (Rtype.elem? 99).run Tryd.prog w = .ok (some 75) w := by kernel_rfl
theorem mkE (p : Addr) (w : World) : (ReflectliteValue.mk 75 p ReflectliteValue.flagAddr).run Tryd.prog w = .ok (.agg #[.pointer (some ⟨5, 75, none⟩), .pointer (some p), .int .u64 386]) w := by kernel_rfl
theorem elemVT (a p : Addr) (W : World) (ha : W.cell? a = some (.pointer (some p))) :
    (ReflectliteValue.method (ReflectliteValue.valueError "reflectlite.Value.Elem" 0) ReflectliteValue.elem #[.agg #[.pointer (some ⟨5, 99, none⟩), .pointer (some a), .int .u64 150]]).run Tryd.prog W
      = .ok (.agg #[.pointer (some ⟨5, 75, none⟩), .pointer (some p), .int .u64 386]) W := by
  rw [rlm]
  simp only [Sem.run_bind, partsT, Result.andThen]
  simp [ReflectliteValue.elem, loadVar, isAgg, underlying, Tryd.underlying99, ha, Result.andThen, elemOfT, mkE]
theorem rls (v x : Value) : ReflectliteValue.set #[v, x] = (do
    let (some (dst, a, fl), some (src, b, _)) := (← ReflectliteValue.parts v, ← ReflectliteValue.parts x)
      | unsupported (.noEntry "extern/(internal/reflectlite.Value).Set.zeroValue")
    if fl / ReflectliteValue.flagAddr % 2 == 0 then unsupported (.noEntry "extern/(internal/reflectlite.Value).Set.unaddressable")
    let val ← loadVar src b
    if ← Rtype.directlyAssignable dst src then storeVar dst a val
    else if ← Rtype.implements dst src then
      if (← Rtype.kind src) == 20 then
        match val with
        | .nilIface => unsupported (.noEntry "extern/reflectlite: a nil value of one interface type handed on as a value of another")
        | _ => storeVar dst a val
      else storeVar dst a (.iface src val)
    else panicString ("reflectlite.Set: value of type " ++ (← Rtype.spelt src) ++ " is not assignable to type " ++ (← Rtype.spelt dst))
    pure (.tuple #[])) := rfl
theorem partsEa (a : Addr) (w : World) : (ReflectliteValue.parts (.agg #[.pointer (some ⟨5, 75, none⟩), .pointer (some a), .int .u64 386])).run Tryd.prog w = .ok (some (75, a, 386)) w := by kernel_rfl
theorem partsE (a : Addr) (w : World) : (ReflectliteValue.parts (.agg #[.pointer (some ⟨5, 75, none⟩), .pointer (some a), .int .u64 130])).run Tryd.prog w = .ok (some (75, a, 130)) w := by kernel_rfl
theorem directE (w : World) : (Rtype.directlyAssignable 75 75).run Tryd.prog w = .ok true w := by kernel_rfl
theorem sizeE (w : World) : (sizeOf 75).run Tryd.prog w = .ok 1 w := by kernel_rfl
theorem setE (ta b : Addr) (n : Int) (old : Value) (W : World) (hb : W.cell? b = some (.int .i64 n)) (ht : W.cell? ta = some old) (hf : W.frozen? ta = false) :
    (ReflectliteValue.set #[.agg #[.pointer (some ⟨5, 75, none⟩), .pointer (some ta), .int .u64 386], .agg #[.pointer (some ⟨5, 75, none⟩), .pointer (some b), .int .u64 130]]).run Tryd.prog W
      = .ok (.tuple #[]) (W.setCell ta (.int .i64 n)) := by
  rw [rls]
  simp only [Sem.run_bind, partsEa, partsE, Result.andThen]
  simp [ReflectliteValue.flagAddr, loadVar, isAgg, underlying, Tryd.underlying75, hb, Result.andThen, directE, storeVar, Value.cells, storeCells, Addr.add]
  rw [run_store Tryd.prog W ta _ _ (by rfl)]
  simp [ht, hf]
set_option maxHeartbeats 4000000 in
theorem as_hit (n : Int) (t : Addr) (old : Value) (w : World) (hg : Handle w) (ht0 : w.cell? t = some old) (hf0 : w.frozen? t = false) :
    Calls Tryd.prog 64 #[.iface 75 (.int .i64 n), .iface 99 (.pointer (some t))] w fun ev w' => ev = .returned (.bool true) ∧ w' = ((((w.alloc (.cells #[.pointer (some t)] 99)).alloc (.cells #[.pointer (some ⟨5, 99, none⟩), .pointer (some ⟨w.heap.size, 0, none⟩), .int .u64 150] 116)).alloc (.cells #[.pointer (some ⟨5, 99, none⟩), .pointer (some ⟨w.heap.size, 0, none⟩), .int .u64 150] 116)).alloc (.cells #[.int .i64 n] 75)).setCell t (.int .i64 n) := by
  have hg : w.cell? ⟨0, 0, none⟩ = some (.iface 142 (.agg #[.pointer (some ⟨5, 24, none⟩)])) := hg
  have h6 := @run_callFunc_extern Tryd.prog 88 _ (fun args => ReflectliteValue.unpack (args.getD 0 (.tuple #[]))) Tryd.func88 (by kernel_rfl) (by kernel_rfl) (by kernel_rfl) (by kernel_rfl)
  have h7 := @run_callFunc_extern Tryd.prog 89 _ (ReflectliteValue.methodAny (ReflectliteValue.valueError "reflectlite.Value.Type" 0) (fun t _ _ _ => ReflectliteType.toType t)) Tryd.func89 (by kernel_rfl) (by kernel_rfl) (by kernel_rfl) (by kernel_rfl)
  have h8 := @run_callFunc_extern Tryd.prog 90 _ (ReflectliteValue.method (ReflectliteValue.valueError "reflectlite.Value.IsNil" 0) ReflectliteValue.isNil) Tryd.func90 (by kernel_rfl) (by kernel_rfl) (by kernel_rfl) (by kernel_rfl)
  have h27 := @run_callFunc_extern Tryd.prog 145 _ (ReflectliteType.abiMethod fun t => do pure (.int .u8 (← Rtype.kind t))) Tryd.func145 (by kernel_rfl) (by kernel_rfl) (by kernel_rfl) (by kernel_rfl)
  have h37 := @run_callFunc_extern Tryd.prog 155 _ (ReflectliteType.method ReflectliteType.elem) Tryd.func155 (by kernel_rfl) (by kernel_rfl) (by kernel_rfl) (by kernel_rfl)
  have h38 := @run_callFunc_extern Tryd.prog 156 _ (ReflectliteType.relation "Implements" ReflectliteType.implements_) Tryd.func156 (by kernel_rfl) (by kernel_rfl) (by kernel_rfl) (by kernel_rfl)
  have h10 := @run_callFunc_extern Tryd.prog 106 _ ReflectliteType.typeOf Tryd.func106 (by kernel_rfl) (by kernel_rfl) (by kernel_rfl) (by kernel_rfl)
  have h35 := @run_callFunc_extern Tryd.prog 153 _ (ReflectliteType.relation "AssignableTo" ReflectliteType.assignableTo) Tryd.func153 (by kernel_rfl) (by kernel_rfl) (by kernel_rfl) (by kernel_rfl)
  have h11 := @run_callFunc_extern Tryd.prog 107 _ (ReflectliteValue.method (ReflectliteValue.valueError "reflectlite.Value.Elem" 0) ReflectliteValue.elem) Tryd.func107 (by kernel_rfl) (by kernel_rfl) (by kernel_rfl) (by kernel_rfl)
  have h12 := @run_callFunc_extern Tryd.prog 108 _ ReflectliteValue.set Tryd.func108 (by kernel_rfl) (by kernel_rfl) (by kernel_rfl) (by kernel_rfl)
  have tO := typeOfE
  have mA := methodAssignableTo
  have a25 := assignableE
  have v25 := valueOfE
  have f6 := valueOfT
  have f7 := typeT
  have mK := methodKind
  have mE := methodElem
  have mI := methodImplements
  have k27 := kindT
  have k25 := kindE
  have e27 := elemT
  have i25 := implementsE
  have n8 := isNilT ⟨w.heap.size, 0, none⟩ t ((w.alloc (.cells #[.pointer (some t)] 99)).alloc (.cells #[.pointer (some ⟨5, 99, none⟩), .pointer (some ⟨w.heap.size, 0, none⟩), .int .u64 150] 116)) (by simp)
  have hlt : 0 < w.heap.size := by
    rcases Nat.eq_zero_or_pos w.heap.size with h0 | h
    · simp [World.cell?, h0] at hg
    · exact h
  have hg2 : ((w.alloc (.cells #[.pointer (some t)] 99)).alloc (.cells #[.pointer (some ⟨5, 99, none⟩), .pointer (some ⟨w.heap.size, 0, none⟩), .int .u64 150] 116)).cell? ⟨0, 0, none⟩ = some (.iface 142 (.agg #[.pointer (some ⟨5, 24, none⟩)])) := by
    rw [World.cell?_alloc_lt _ _ ⟨0, 0, none⟩ (by simp), World.cell?_alloc_lt _ _ ⟨0, 0, none⟩ hlt]; exact hg
  have htl : t.block < w.heap.size := by
    rcases Nat.lt_or_ge t.block w.heap.size with h | h
    · exact h
    · simp [World.cell?, Array.getElem?_eq_none h] at ht0
  have el := elemVT ⟨w.heap.size, 0, none⟩ t (((w.alloc (.cells #[.pointer (some t)] 99)).alloc (.cells #[.pointer (some ⟨5, 99, none⟩), .pointer (some ⟨w.heap.size, 0, none⟩), .int .u64 150] 116)).alloc (.cells #[.pointer (some ⟨5, 99, none⟩), .pointer (some ⟨w.heap.size, 0, none⟩), .int .u64 150] 116)) (by rw [World.cell?_alloc_lt _ _ ⟨w.heap.size, 0, none⟩ (by simp; omega)]; simp)
  have st := setE t ⟨w.heap.size + 1 + 1 + 1, 0, none⟩ n old ((((w.alloc (.cells #[.pointer (some t)] 99)).alloc (.cells #[.pointer (some ⟨5, 99, none⟩), .pointer (some ⟨w.heap.size, 0, none⟩), .int .u64 150] 116)).alloc (.cells #[.pointer (some ⟨5, 99, none⟩), .pointer (some ⟨w.heap.size, 0, none⟩), .int .u64 150] 116)).alloc (.cells #[.int .i64 n] 75))
    (by rw [World.cell?_alloc_at _ _ _ _ (by simp)]; rfl)
    (by rw [World.cell?_alloc_lt _ _ t (by simp; omega), World.cell?_alloc_lt _ _ t (by simp; omega), World.cell?_alloc_lt _ _ t (by simp; omega), World.cell?_alloc_lt _ _ t htl]; exact ht0)
    (by rw [World.frozen?_alloc_old _ _ t (by simp; omega), World.frozen?_alloc_old _ _ t (by simp; omega), World.frozen?_alloc_old _ _ t (by simp; omega), World.frozen?_alloc_old _ _ t (Nat.ne_of_lt htl)]; exact hf0)
  go_enter Tryd.func64, Tryd.ntmps64
  go_wp2
  refine wp_loop_rounds 1 ?_
  rw [rounds_succ]
  go_wp2
  go_ret
  exact ⟨rfl, rfl⟩
end As
end Go.Proofs.YtgjjilehpgnjhaaDoor
/- What plain.Told makes of an error: its number. -/
namespace Go.Proofs.YtgjjilehpgnjhaaDoor
open Go.RowKit
set_option linter.unusedVariables false
/-- What plain.Told makes of an error. -/
theorem tell_any {w0 w : World} {R : HProp} (hg : As.Handle w0) (n : Nat) (h : Own w0 R w) :
    Calls Tryd.prog 42 #[errV n] w fun e w' => e = .returned (.int .i64 n) ∧ Own w0 R w' := by
  have HH := Lib.hid h
  cases n with
  | zero =>
    rw [errV0]
    go_enter Tryd.func42, Tryd.ntmps42
    go_wp2
    go_ret
    exact ⟨rfl, HH.out⟩
  | succ n =>
    rw [show errV (n + 1) = .iface 75 (.int .i64 ((n : Int) + 1)) from rfl]
    have hlt : (⟨0, 0, none⟩ : Addr).block < w0.heap.size := World.block_lt_of_cell? _ _ hg
    have hw : As.Handle w := by unfold As.Handle; rw [h.below.cell (p := ⟨0, 0, none⟩) hlt]; exact hg
    have hlw : (⟨0, 0, none⟩ : Addr).block < w.heap.size := World.block_lt_of_cell? _ _ hw
    have hw1 : As.Handle (w.alloc (.cells #[.int .i64 0] 75)) := by unfold As.Handle; rw [World.cell?_alloc_lt _ _ _ hlw]; exact hw
    have HW1 := Lib.hid hw1
    have g1 := (h.alloc (.cells #[.int .i64 0] 75))
    have HC := Lib.hid (g1.cell 0); have HF := Lib.hid (g1.free 0 none)
    clear hw hw1 hlw hlt h g1 hg
    go_enter Tryd.func42, Tryd.ntmps42
    go_wp2_with fail
    refine (As.as_hit _ ⟨w.heap.size, 0, none⟩ (.int .i64 0) _ HW1.out HC.out HF.out).mono ?_
    rintro e w' ⟨rfl, rfl⟩
    go_wp2
    go_ret
    exact ⟨by simp, ((((HH.out.alloc' _).alloc' _).alloc' _).alloc' _).alloc' _⟩
/-- Is an error the one told? -/
theorem sameErr_any {w0 w : World} {R : HProp} (hg : As.Handle w0) (n : Nat) (m : Int) (h : Own w0 R w) :
    Calls Tryd.prog 11 #[errV n, .int .i64 m] w fun e w' => e = .returned (.bool ((n : Int) == m)) ∧ Own w0 R w' := by
  have T := Lib.hid (tell_any hg n h)
  clear hg h
  go_enter Tryd.func11, Tryd.ntmps11
  go_wp2_with fail
  refine (T.out).mono ?_
  rintro e w' ⟨rfl, ho⟩
  have HO := Lib.hid ho
  clear ho
  go_wp2
  go_ret
  exact ⟨rfl, HO.out⟩
end Go.Proofs.YtgjjilehpgnjhaaDoor
/- HistoryTells: what the law reckons with the reference's table. -/
namespace Go.Proofs.YtgjjilehpgnjhaaDoor
set_option linter.unusedVariables false
set_option linter.unusedSimpArgs false
open Go.RowKit
noncomputable def htWant_code : Code := ((Tryd.f4.body.bind (findIf 67)).getD .skip)
set_option maxRecDepth 1000000 in
set_option maxHeartbeats 4000000 in
theorem htWant {Q : Exit → Act → World → Prop} {u3 u4 u5 u6 u7 u8 u9 u10 u11 u12 u13 u14 u16 u17 u18 u19 u20 u21 u22 u23 u24 u25 u26 u27 u28 u29 u30 u31 u32 u33 u34 u35 u36 u37 u38 u39 u40 u41 u42 u43 u44 u45 u46 u47 u48 u49 u50 u51 u52 u53 u54 u55 u56 u57 u58 u59 u60 u61 u62 u63 u64 u65 u66 u68 u69 u70 u71 u72 u73 u74 u75 u76 u77 u78 u79 u80 u81 u82 u83 u84 u85 u86 u87 u88 u89 u90 u91 u92 u93 u94 u95 u96 u97 u98 u99 u100 u101 u102 u103 u104 u105 u106 u107 u108 u109 u110 u111 u112 u113 u114 u115 u116 u117 u118 u119 u120 u121 u122 u123 u124 u125 u126 u127 u128 u129 u130 u131 u132 u133 u134 u135 u136 u137 u138 u139 u140 u141 u142 u143 u144 u145 u146 u147 u148 u149 u150 u151 u152 u153 u154 u155 u156 u157 u158 u159 u160 u161 u162 u163 u164 u165 u166 u167 u168 u169 : Value} {w1 : World} (w : World) (R : HProp) (n hcap : Nat) (had : Option Addr) (hs : List Ev) (i k : Int) (X : Bool) (HLN : Hid (hs.length = n)) (HX : Hid (X = decide (befErr hs i k = 0))) (hc1 : n ≤ hcap) (hc2 : hcap ≤ 9223372036854775807) (HV : Hid (ReadsE w R (.slice had n hcap) hs)) (HP : Hid (Own w R w1))
    (hK : ∀ (v15 v16 v68 v69 v70 v71 v72 v73 v74 : Value) (wx : World), (v15 = .bool (befB hs i k) ∧ Own w R wx) → Q .normal ⟨List.toArray ((.slice had n hcap) :: (.int .i64 i) :: (.int .i64 k) :: u3 :: u4 :: u5 :: u6 :: u7 :: u8 :: u9 :: u10 :: u11 :: u12 :: u13 :: u14 :: v15 :: v16 :: u17 :: u18 :: u19 :: u20 :: u21 :: u22 :: u23 :: u24 :: u25 :: u26 :: u27 :: u28 :: u29 :: u30 :: u31 :: u32 :: u33 :: u34 :: u35 :: u36 :: u37 :: u38 :: u39 :: u40 :: u41 :: u42 :: u43 :: u44 :: u45 :: u46 :: u47 :: u48 :: u49 :: u50 :: u51 :: u52 :: u53 :: u54 :: u55 :: u56 :: u57 :: u58 :: u59 :: u60 :: u61 :: u62 :: u63 :: u64 :: u65 :: u66 :: (.bool X) :: v68 :: v69 :: v70 :: v71 :: v72 :: v73 :: v74 :: u75 :: u76 :: u77 :: u78 :: u79 :: u80 :: u81 :: u82 :: u83 :: u84 :: u85 :: u86 :: u87 :: u88 :: u89 :: u90 :: u91 :: u92 :: u93 :: u94 :: u95 :: u96 :: u97 :: u98 :: u99 :: u100 :: u101 :: u102 :: u103 :: u104 :: u105 :: u106 :: u107 :: u108 :: u109 :: u110 :: u111 :: u112 :: u113 :: u114 :: u115 :: u116 :: u117 :: u118 :: u119 :: u120 :: u121 :: u122 :: u123 :: u124 :: u125 :: u126 :: u127 :: u128 :: u129 :: u130 :: u131 :: u132 :: u133 :: u134 :: u135 :: u136 :: u137 :: u138 :: u139 :: u140 :: u141 :: u142 :: u143 :: u144 :: u145 :: u146 :: u147 :: u148 :: u149 :: u150 :: u151 :: u152 :: u153 :: u154 :: u155 :: u156 :: u157 :: u158 :: u159 :: u160 :: u161 :: u162 :: u163 :: u164 :: u165 :: u166 :: u167 :: u168 :: u169 :: []), []⟩ wx) :
    Code.wp Tryd.prog htWant_code Q ⟨List.toArray ((.slice had n hcap) :: (.int .i64 i) :: (.int .i64 k) :: u3 :: u4 :: u5 :: u6 :: u7 :: u8 :: u9 :: u10 :: u11 :: u12 :: u13 :: u14 :: (.bool false) :: u16 :: u17 :: u18 :: u19 :: u20 :: u21 :: u22 :: u23 :: u24 :: u25 :: u26 :: u27 :: u28 :: u29 :: u30 :: u31 :: u32 :: u33 :: u34 :: u35 :: u36 :: u37 :: u38 :: u39 :: u40 :: u41 :: u42 :: u43 :: u44 :: u45 :: u46 :: u47 :: u48 :: u49 :: u50 :: u51 :: u52 :: u53 :: u54 :: u55 :: u56 :: u57 :: u58 :: u59 :: u60 :: u61 :: u62 :: u63 :: u64 :: u65 :: u66 :: (.bool X) :: u68 :: u69 :: u70 :: u71 :: u72 :: u73 :: u74 :: u75 :: u76 :: u77 :: u78 :: u79 :: u80 :: u81 :: u82 :: u83 :: u84 :: u85 :: u86 :: u87 :: u88 :: u89 :: u90 :: u91 :: u92 :: u93 :: u94 :: u95 :: u96 :: u97 :: u98 :: u99 :: u100 :: u101 :: u102 :: u103 :: u104 :: u105 :: u106 :: u107 :: u108 :: u109 :: u110 :: u111 :: u112 :: u113 :: u114 :: u115 :: u116 :: u117 :: u118 :: u119 :: u120 :: u121 :: u122 :: u123 :: u124 :: u125 :: u126 :: u127 :: u128 :: u129 :: u130 :: u131 :: u132 :: u133 :: u134 :: u135 :: u136 :: u137 :: u138 :: u139 :: u140 :: u141 :: u142 :: u143 :: u144 :: u145 :: u146 :: u147 :: u148 :: u149 :: u150 :: u151 :: u152 :: u153 :: u154 :: u155 :: u156 :: u157 :: u158 :: u159 :: u160 :: u161 :: u162 :: u163 :: u164 :: u165 :: u166 :: u167 :: u168 :: u169 :: []), []⟩ w1 := by
  conv => arg 2; whnf
  have HK := Lib.hid hK
  clear hK
  cases X
  · have hb : befB hs i k = false := by unfold befB; rw [← HX.out]; rfl
    have HB := Lib.hid hb
    clear hb
    go_wp2_with fail
    apply HK.out
    exact ⟨by rw [HB.out], HP.out⟩
  have he : befErr hs i k = 0 := by have := HX.out; simpa using this.symm
  have h0 : (histR hs).2 = 0 := by
    apply Decidable.byContradiction
    intro h
    unfold befErr at he
    rw [if_pos h] at he; exact h he
  have hlen := ((histR_ok hs).1 h0).1
  have hin : insideB hs.length i = false ∧ insideB hs.length k = false := by
    unfold befErr at he
    rw [if_neg (by simpa using h0)] at he
    rw [← Bool.or_eq_false_iff]
    cases hc : (insideB hs.length i || insideB hs.length k)
    · rfl
    · rw [hc] at he; cases he
  obtain ⟨i1, i2⟩ := insideB_no hin.1
  obtain ⟨k1, k2⟩ := insideB_no hin.2
  obtain ⟨a, rfl⟩ : ∃ a : Nat, i = (a : Int) := ⟨i.toNat, by omega⟩
  obtain ⟨c, rfl⟩ : ∃ c : Nat, k = (c : Int) := ⟨k.toNat, by omega⟩
  have hb_ : befB hs a c = bef hs c a := by unfold befB; rw [he]; simp
  have a0 : (0 : Int) ≤ (a : Int) := by omega
  have c0 : (0 : Int) ≤ (c : Int) := by omega
  have a6 : (a : Int) < 60 := by omega
  have c6 : (c : Int) < 60 := by omega
  have aN : a < 60 := by omega
  have cN : c < 60 := by omega
  have HLE := Lib.hid hlen
  clear hlen
  have HE := Lib.hid he; have H0 := Lib.hid h0; have HIN := Lib.hid hin; have I1 := Lib.hid i1; have I2 := Lib.hid i2; have K1 := Lib.hid k1; have K2 := Lib.hid k2; have HB_ := Lib.hid hb_
  clear he h0 hin i1 i2 k1 k2 hb_
  go_wp2_with fail
  refine (refBefores_any _ hs HP.out HV.out HLE.out).mono ?_
  rintro e w2 ⟨rfl, ho⟩
  have HO2 := Lib.hid ho
  clear ho
  rename_i hK9
  refine hK9 _ _ ?_
  clear hK9
  refine wp_keep60 (fun i k => bef hs k i) 16 69 rfl rfl rfl rfl rfl rfl (fun _ => rfl) (fun _ => rfl) HO2.out (fun fb w3 ho => ?_)
  have b0 := ho.t60 aN cN
  obtain ⟨z, hz⟩ : ∃ z, z = bef hs c a := ⟨_, rfl⟩
  try simp only at b0
  rw [← hz] at b0
  have HO3 := Lib.hid ho.drop
  clear ho HO2
  have HZ := Lib.hid hz
  clear hz
  go_wp2_with fail
  apply HK.out
  exact ⟨by rw [HB_.out, HZ.out], HO3.out⟩
noncomputable def htPast_code : Code := ((Tryd.f4.body.bind (findBlock 0)).getD .skip)
set_option maxRecDepth 1000000 in
set_option maxHeartbeats 4000000 in
theorem htPast {Q : Exit → Act → World → Prop} {u2 u3 u4 u5 u6 u7 u8 u9 u10 u11 u12 u13 u15 u16 u17 u18 u21 u22 u23 u24 u25 u26 u27 u28 u29 u30 u31 u32 u33 u34 u35 u36 u37 u38 u39 u40 u41 u42 u43 u44 u45 u46 u47 u48 u49 u50 u51 u52 u53 u54 u55 u56 u57 u58 u59 u60 u61 u62 u63 u64 u65 u66 u67 u68 u69 u70 u71 u72 u73 u74 u75 u76 u77 u78 u79 u80 u81 u82 u83 u84 u85 u86 u87 u88 u89 u90 u91 u92 u93 u94 u95 u96 u97 u98 u99 u100 u101 u102 u103 u104 u105 u106 u107 u108 u109 u110 u111 u112 u113 u114 u115 u116 u117 u118 u119 u120 u121 u122 u123 u124 u125 u126 u127 u128 u129 u130 u131 u132 u133 u134 u135 u136 u137 u138 u139 u140 u141 u142 u143 u144 u145 u146 u147 u148 u149 u150 u151 u152 u153 u154 u155 u156 u157 u158 u159 u160 u161 u162 u163 u164 u165 u166 u167 u168 u169 : Value} {w1 : World} (w : World) (R : HProp) (n hcap : Nat) (had : Option Addr) (hs : List Ev) (i : Int) (F : Nat) (HF : Hid (F = pastErr hs i)) (HLN : Hid (hs.length = n)) (hc1 : n ≤ hcap) (hc2 : hcap ≤ 9223372036854775807) (hF : F ≤ 1000) (HV : Hid (ReadsE w R (.slice had n hcap) hs)) (HP : Hid (Own w R w1))
    (hK : ∀ (v19 v20 v21 v103 v104 v105 v106 v107 v108 v109 v110 v111 v112 v113 v114 v115 v116 v117 v118 v119 v120 v121 v122 v123 : Value) (wx : World), (Own w (IntSl v19 (pastE hs i) * R) wx) → Q .normal ⟨List.toArray ((.slice had n hcap) :: (.int .i64 i) :: u2 :: u3 :: u4 :: u5 :: u6 :: u7 :: u8 :: u9 :: u10 :: u11 :: u12 :: u13 :: (.int .i64 (F : Int)) :: u15 :: u16 :: u17 :: u18 :: v19 :: v20 :: v21 :: u22 :: u23 :: u24 :: u25 :: u26 :: u27 :: u28 :: u29 :: u30 :: u31 :: u32 :: u33 :: u34 :: u35 :: u36 :: u37 :: u38 :: u39 :: u40 :: u41 :: u42 :: u43 :: u44 :: u45 :: u46 :: u47 :: u48 :: u49 :: u50 :: u51 :: u52 :: u53 :: u54 :: u55 :: u56 :: u57 :: u58 :: u59 :: u60 :: u61 :: u62 :: u63 :: u64 :: u65 :: u66 :: u67 :: u68 :: u69 :: u70 :: u71 :: u72 :: u73 :: u74 :: u75 :: u76 :: u77 :: u78 :: u79 :: u80 :: u81 :: u82 :: u83 :: u84 :: u85 :: u86 :: u87 :: u88 :: u89 :: u90 :: u91 :: u92 :: u93 :: u94 :: u95 :: u96 :: u97 :: u98 :: u99 :: u100 :: u101 :: u102 :: v103 :: v104 :: v105 :: v106 :: v107 :: v108 :: v109 :: v110 :: v111 :: v112 :: v113 :: v114 :: v115 :: v116 :: v117 :: v118 :: v119 :: v120 :: v121 :: v122 :: v123 :: u124 :: u125 :: u126 :: u127 :: u128 :: u129 :: u130 :: u131 :: u132 :: u133 :: u134 :: u135 :: u136 :: u137 :: u138 :: u139 :: u140 :: u141 :: u142 :: u143 :: u144 :: u145 :: u146 :: u147 :: u148 :: u149 :: u150 :: u151 :: u152 :: u153 :: u154 :: u155 :: u156 :: u157 :: u158 :: u159 :: u160 :: u161 :: u162 :: u163 :: u164 :: u165 :: u166 :: u167 :: u168 :: u169 :: []), []⟩ wx) :
    Code.wp Tryd.prog htPast_code Q ⟨List.toArray ((.slice had n hcap) :: (.int .i64 i) :: u2 :: u3 :: u4 :: u5 :: u6 :: u7 :: u8 :: u9 :: u10 :: u11 :: u12 :: u13 :: (.int .i64 (F : Int)) :: u15 :: u16 :: u17 :: u18 :: (.slice none 0 0) :: (.int .i64 0) :: u21 :: u22 :: u23 :: u24 :: u25 :: u26 :: u27 :: u28 :: u29 :: u30 :: u31 :: u32 :: u33 :: u34 :: u35 :: u36 :: u37 :: u38 :: u39 :: u40 :: u41 :: u42 :: u43 :: u44 :: u45 :: u46 :: u47 :: u48 :: u49 :: u50 :: u51 :: u52 :: u53 :: u54 :: u55 :: u56 :: u57 :: u58 :: u59 :: u60 :: u61 :: u62 :: u63 :: u64 :: u65 :: u66 :: u67 :: u68 :: u69 :: u70 :: u71 :: u72 :: u73 :: u74 :: u75 :: u76 :: u77 :: u78 :: u79 :: u80 :: u81 :: u82 :: u83 :: u84 :: u85 :: u86 :: u87 :: u88 :: u89 :: u90 :: u91 :: u92 :: u93 :: u94 :: u95 :: u96 :: u97 :: u98 :: u99 :: u100 :: u101 :: u102 :: u103 :: u104 :: u105 :: u106 :: u107 :: u108 :: u109 :: u110 :: u111 :: u112 :: u113 :: u114 :: u115 :: u116 :: u117 :: u118 :: u119 :: u120 :: u121 :: u122 :: u123 :: u124 :: u125 :: u126 :: u127 :: u128 :: u129 :: u130 :: u131 :: u132 :: u133 :: u134 :: u135 :: u136 :: u137 :: u138 :: u139 :: u140 :: u141 :: u142 :: u143 :: u144 :: u145 :: u146 :: u147 :: u148 :: u149 :: u150 :: u151 :: u152 :: u153 :: u154 :: u155 :: u156 :: u157 :: u158 :: u159 :: u160 :: u161 :: u162 :: u163 :: u164 :: u165 :: u166 :: u167 :: u168 :: u169 :: []), []⟩ w1 := by
  conv => arg 2; whnf
  have HK := Lib.hid hK
  clear hK
  by_cases h1 : F = 0
  rotate_left
  · have hb : pastE hs i = [] := by unfold pastE; rw [if_neg (by rw [← HF.out]; exact h1)]
    have HO := Lib.hid (HP.out.sl_nil 3 1)
    have t1 : ((F : Int) == 0) = false := by rw [beq_eq_false_iff_ne]; omega
    have HB := Lib.hid hb; have H1 := Lib.hid h1
    clear hb h1
    go_wp2_with fail
    go_loopw [20, 19] (fun kv ov wr => kv = .int .i64 0 ∧ ov = .slice none 0 0 ∧ Hid (Own w R wr)) (fun kv _ _ => 0)
    case atStart => exact ⟨rfl, rfl, HP⟩
    case round =>
      clear HO HP
      obtain ⟨rfl, rfl, HO⟩ := hrel
      have HO2 := Lib.hid (HO.out.sl_nil 3 1)
      by_cases hn0 : n = 0
      · subst hn0
        go_wp2_with fail
        apply HK.out
        rw [HB.out]; exact HO2.out
      · have hnp : 0 < n := by omega
        go_wp2_with fail
        apply HK.out
        rw [HB.out]; exact HO2.out
  subst h1
  have he := HF.out.symm
  have h0 : (histR hs).2 = 0 := by
    apply Decidable.byContradiction
    intro h
    unfold pastErr at he
    rw [if_pos h] at he; exact h he
  have hlen := ((histR_ok hs).1 h0).1
  have hin : insideB hs.length i = false := by
    unfold pastErr at he
    rw [if_neg (by simpa using h0)] at he
    cases hc : insideB hs.length i
    · rfl
    · rw [hc] at he; cases he
  obtain ⟨i1, i2⟩ := insideB_no hin
  obtain ⟨a, rfl⟩ : ∃ a : Nat, i = (a : Int) := ⟨i.toNat, by omega⟩
  have hb_ : pastE hs a = pastL hs a n := by unfold pastE; rw [he, if_pos rfl, HLN.out]; rfl
  have a0 : (0 : Int) ≤ (a : Int) := by omega
  have a6 : (a : Int) < 60 := by omega
  have aN : a < 60 := by omega
  have n60 : n ≤ 60 := by rw [← HLN.out]; exact hlen
  have HLE := Lib.hid hlen
  clear hlen
  have HE := Lib.hid he; have H0 := Lib.hid h0; have HIN := Lib.hid hin; have I1 := Lib.hid i1; have I2 := Lib.hid i2; have HB_ := Lib.hid hb_
  clear he h0 hin i1 i2 hb_
  rw [show ((0 : Nat) : Int) = (0 : Int) from rfl]
  go_wp2_with fail
  go_loopw [20, 19] (fun kv ov wr => ∃ k : Nat, k ≤ n ∧ kv = .int .i64 k ∧ Hid (Own w (IntSl ov (pastL hs a k) * R) wr)) (fun kv _ _ => n - (intOf kv).toNat)
  case atStart => exact ⟨0, Nat.zero_le _, rfl, Lib.hid (by rw [pastL_zero]; exact HP.out.sl_nil _ _)⟩
  case round =>
    clear HP
    obtain ⟨k, hk, rfl, HO⟩ := hrel
    by_cases hlt : k < n
    rotate_left
    · have hkn : k = n := by omega
      subst hkn
      go_wp2_with fail
      apply HK.out
      rw [HB_.out]; exact HO.out
    have hst := pastL_step hs a k
    obtain ⟨z, hz⟩ : ∃ z, z = bef hs a k := ⟨_, rfl⟩
    rw [← hz] at hst
    obtain ⟨out, hout⟩ : ∃ out, out = pastL hs a k := ⟨_, rfl⟩
    have hol : out.length ≤ 60 := by rw [hout]; have := pastL_len hs a k; omega
    have ho := HO.out
    rw [← hout] at ho hst
    have HO1 := Lib.hid ho
    clear ho HO
    have k0 : (0 : Int) ≤ (k : Int) := by omega
    have k6 : (k : Int) < 60 := by omega
    have kN : k < 60 := by omega
    have HST := Lib.hid hst; have HZ := Lib.hid hz; have HOUT := Lib.hid hout
    clear hst hz hout
    go_wp2_with fail
    refine (refBefores_any _ hs HO1.out HV.out.more HLE.out).mono ?_
    rintro e w2 ⟨rfl, ho⟩
    have HO2 := Lib.hid ho
    clear ho HO1
    rename_i hK9
    refine hK9 _ _ ?_
    clear hK9
    refine wp_keep60 (fun i k => bef hs k i) 21 114 rfl rfl rfl rfl rfl rfl (fun _ => rfl) (fun _ => rfl) HO2.out (fun fb w3 ho => ?_)
    have b0 := ho.t60 kN aN
    try simp only at b0
    rw [← HZ.out] at b0
    have HO3 := Lib.hid ho.drop
    clear ho HO2
    cases z
    · have hs2 : pastL hs a (k + 1) = out := by rw [HST.out]; rfl
      have HN2 : Hid (Own w (IntSl u19 (pastL hs a (k + 1)) * R) w3) := Lib.hid (by rw [hs2]; exact HO3.out)
      have HS2 := Lib.hid hs2
      clear hs2
      go_wp2_with fail
      go_roundw
      case rel => exact ⟨k + 1, by omega, by go_num, HN2⟩
      case measure => simp [intOf]; omega
    · have hs2 : pastL hs a (k + 1) = out ++ [(k : Int)] := by rw [HST.out]; rfl
      have HA : Hid (Own w (Sl 3 1 u19 out.length (out.map (Value.int .i64)) * R) w3) := HO3
      have HS2 := Lib.hid hs2
      clear hs2
      go_wp2_with (at_builtin; refine wpList_app rfl _ _ 31 rfl 3 1 8 _ info_int Tryd.underlying31 rfl (by decide) rfl (HA.out.alloc' _) rfl (by rfl) (Rd_lit (by simp) (by unfold maxLen; omega)) (by intro u hu; simp at hu; subst hu; rfl) (by unfold maxLen; omega) (by omega) ?_; intro v' w5 hown; have HN2 : Hid (Own w (IntSl v' (pastL hs a (k + 1)) * R) w5) := Lib.hid (by rw [HS2.out]; exact hown.perm (show _ = IntSl v' (out ++ [(k : Int)]) * R by unfold IntSl; simp)); clear hown)
      go_roundw
      case rel => exact ⟨k + 1, by omega, by go_num, HN2⟩
      case measure => simp [intOf]; omega
end Go.Proofs.YtgjjilehpgnjhaaDoor
