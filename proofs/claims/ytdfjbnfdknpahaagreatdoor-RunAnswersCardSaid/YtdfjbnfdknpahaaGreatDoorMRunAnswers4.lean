/- strconv.Atoi at every string: that the loaded program bears the texts that the library's contracts speak of. -/
import Derived.Test.YtdfjbnfdknpahaaGreatDoorProg
import Derived.Shelf.Strconv.AtoiAll
import Derived.Test.YtdfjbnfdknpahaaGreatDoorMRunAnswers3
import Derived.Lib.AtoiAllCases
import Derived.Lib.ItoaNum
import Derived.Test.YtdfjbnfdknpahaaGreatDoorMRunAnswers1
import Derived.LaidEql
import Derived.Stop.Asserts
import Derived.RowKitTokens
import Derived.Lib.AppendIntMem
import Derived.Test.YtdfjbnfdknpahaaGreatDoorMRunAnswers2
namespace Go.Proofs.YtdfjbnfdknpahaaGreatDoor
set_option linter.unusedVariables false
set_option linter.unusedSimpArgs false
open Go.RowKit Go.Proofs
def atRen : Go.Shelf.Ren := ⟨fun | 129 => 159 | 171 => 79 | 172 => 95 | 205 => 157 | 243 => 105 | 244 => 116 | 245 => 117 | 246 => 121 | 247 => 136 | 279 => 137 | 280 => 138 | 281 => 139 | 282 => 140 | 283 => 144 | 284 => 145 | 285 => 146 | 286 => 147 | 287 => 155 | 316 => 156 | 317 => 158 | 318 => 160 | 319 => 161 | 320 => 162 | 321 => 165 | 322 => 166 | 337 => 167 | 338 => 168 | n => n, fun | 0 => 0 | 2 => 2 | 3 => 3 | 4 => 4 | 5 => 5 | 9 => 9 | 20 => 20 | 21 => 21 | 37 => 40 | 46 => 220 | 51 => 242 | 53 => 229 | 75 => 34 | 76 => 46 | 80 => 49 | 85 => 222 | 127 => 108 | 143 => 257 | 145 => 259 | 167 => 221 | 168 => 224 | 171 => 228 | 173 => 232 | 175 => 245 | 210 => 248 | 212 => 251 | 213 => 252 | 232 => 261 | 233 => 262 | n => n, fun | 15 => 5 | 16 => 6 | 17 => 7 | 18 => 8 | 19 => 9 | n => n⟩
theorem atL : LaysC.n172 Tryz.prog atRen where
  mixed := by kernel_rfl
  f129 := Tryz.func159.trans (congrArg some (by kernel_rfl))
  f171 := Tryz.func79.trans (congrArg some (by kernel_rfl))
  f172 := Tryz.func95.trans (congrArg some (by kernel_rfl))
  f205 := Tryz.func157.trans (congrArg some (by kernel_rfl))
  f243 := Tryz.func105.trans (congrArg some (by kernel_rfl))
  f244 := Tryz.func116.trans (congrArg some (by kernel_rfl))
  f245 := Tryz.func117.trans (congrArg some (by kernel_rfl))
  f246 := Tryz.func121.trans (congrArg some (by kernel_rfl))
  f247 := Tryz.func136.trans (congrArg some (by kernel_rfl))
  f279 := Tryz.func137.trans (congrArg some (by kernel_rfl))
  f280 := Tryz.func138.trans (congrArg some (by kernel_rfl))
  f281 := Tryz.func139.trans (congrArg some (by kernel_rfl))
  f282 := Tryz.func140.trans (congrArg some (by kernel_rfl))
  f283 := Tryz.func144.trans (congrArg some (by kernel_rfl))
  f284 := Tryz.func145.trans (congrArg some (by kernel_rfl))
  f285 := Tryz.func146.trans (congrArg some (by kernel_rfl))
  f286 := Tryz.func147.trans (congrArg some (by kernel_rfl))
  f287 := Tryz.func155.trans (congrArg some (by kernel_rfl))
  f316 := Tryz.func156.trans (congrArg some (by kernel_rfl))
  f317 := Tryz.func158.trans (congrArg some (by kernel_rfl))
  f318 := Tryz.func160.trans (congrArg some (by kernel_rfl))
  f319 := Tryz.func161.trans (congrArg some (by kernel_rfl))
  f320 := Tryz.func162.trans (congrArg some (by kernel_rfl))
  f321 := Tryz.func165.trans (congrArg some (by kernel_rfl))
  f322 := Tryz.func166.trans (congrArg some (by kernel_rfl))
  f337 := Tryz.func167.trans (congrArg some (by kernel_rfl))
  f338 := Tryz.func168.trans (congrArg some (by kernel_rfl))
  t0 := Tryz.underlying0
  a0 := Tryz.isAgg0
  z0 := Tryz.sizeOf0
  v0 := Tryz.zeroValue0
  t2 := Tryz.underlying2
  a2 := Tryz.isAgg2
  z2 := Tryz.sizeOf2
  v2 := Tryz.zeroValue2
  t3 := Tryz.underlying3
  a3 := Tryz.isAgg3
  z3 := Tryz.sizeOf3
  v3 := Tryz.zeroValue3
  t4 := Tryz.underlying4
  a4 := Tryz.isAgg4
  z4 := Tryz.sizeOf4
  v4 := Tryz.zeroValue4
  t5 := Tryz.underlying5
  a5 := Tryz.isAgg5
  z5 := Tryz.sizeOf5
  v5 := Tryz.zeroValue5
  t9 := Tryz.underlying9
  a9 := Tryz.isAgg9
  z9 := Tryz.sizeOf9
  v9 := Tryz.zeroValue9
  t20 := Tryz.underlying20
  a20 := Tryz.isAgg20
  z20 := Tryz.sizeOf20
  v20 := Tryz.zeroValue20
  t21 := Tryz.underlying21
  a21 := Tryz.isAgg21
  z21 := Tryz.sizeOf21
  v21 := Tryz.zeroValue21
  t37 := Tryz.underlying40
  a37 := Tryz.isAgg40
  z37 := Tryz.sizeOf40
  v37 := Tryz.zeroValue40
  t46 := Tryz.underlying220
  a46 := Tryz.isAgg220
  z46 := Tryz.sizeOf220
  v46 := Tryz.zeroValue220
  t51 := Tryz.underlying242
  a51 := Tryz.isAgg242
  z51 := Tryz.sizeOf242
  v51 := Tryz.zeroValue242
  t53 := Tryz.underlying229
  a53 := Tryz.isAgg229
  z53 := Tryz.sizeOf229
  v53 := Tryz.zeroValue229
  t75 := Tryz.underlying34
  a75 := Tryz.isAgg34
  z75 := Tryz.sizeOf34
  v75 := Tryz.zeroValue34
  t76 := Tryz.underlying46
  a76 := Tryz.isAgg46
  z76 := Tryz.sizeOf46
  v76 := Tryz.zeroValue46
  t85 := Tryz.underlying222
  a85 := Tryz.isAgg222
  z85 := Tryz.sizeOf222
  v85 := Tryz.zeroValue222
  t127 := Tryz.underlying108
  a127 := Tryz.isAgg108
  z127 := Tryz.sizeOf108
  v127 := Tryz.zeroValue108
  t143 := Tryz.underlying257
  a143 := Tryz.isAgg257
  z143 := Tryz.sizeOf257
  v143 := Tryz.zeroValue257
  t145 := Tryz.underlying259
  a145 := Tryz.isAgg259
  z145 := Tryz.sizeOf259
  v145 := Tryz.zeroValue259
  t167 := Tryz.underlying221
  a167 := Tryz.isAgg221
  z167 := Tryz.sizeOf221
  v167 := Tryz.zeroValue221
  t168 := Tryz.underlying224
  a168 := Tryz.isAgg224
  z168 := Tryz.sizeOf224
  v168 := Tryz.zeroValue224
  t171 := Tryz.underlying228
  a171 := Tryz.isAgg228
  z171 := Tryz.sizeOf228
  v171 := Tryz.zeroValue228
  t173 := Tryz.underlying232
  a173 := Tryz.isAgg232
  z173 := Tryz.sizeOf232
  v173 := Tryz.zeroValue232
  t175 := Tryz.underlying245
  a175 := Tryz.isAgg245
  z175 := Tryz.sizeOf245
  v175 := Tryz.zeroValue245
  t210 := Tryz.underlying248
  a210 := Tryz.isAgg248
  z210 := Tryz.sizeOf248
  v210 := Tryz.zeroValue248
  t212 := Tryz.underlying251
  a212 := Tryz.isAgg251
  z212 := Tryz.sizeOf251
  v212 := Tryz.zeroValue251
  t213 := Tryz.underlying252
  a213 := Tryz.isAgg252
  z213 := Tryz.sizeOf252
  t232 := Tryz.underlying261
  a232 := Tryz.isAgg261
  z232 := Tryz.sizeOf261
  v232 := Tryz.zeroValue261
  t233 := Tryz.underlying262
  a233 := Tryz.isAgg262
  z233 := Tryz.sizeOf262
  v233 := Tryz.zeroValue262
  g15 := by kernel_rfl
  g16 := by kernel_rfl
  g17 := by kernel_rfl
  g18 := by kernel_rfl
  g19 := by kernel_rfl
  t80 := Tryz.underlying49
  a80 := Tryz.isAgg49
  z80 := Tryz.sizeOf49
  v80 := Tryz.zeroValue49
  i0 := by kernel_rfl
  i2 := by kernel_rfl
  i3 := by kernel_rfl
  i4 := by kernel_rfl
  i5 := by kernel_rfl
  i9 := by kernel_rfl
  i20 := by kernel_rfl
  i21 := by kernel_rfl
  i37 := by kernel_rfl
  i46 := by kernel_rfl
  i51 := by kernel_rfl
  i53 := by kernel_rfl
  i75 := by kernel_rfl
  i76 := by kernel_rfl
  i80 := by kernel_rfl
  i85 := by kernel_rfl
  i127 := by kernel_rfl
  i143 := by kernel_rfl
  i145 := by kernel_rfl
  i167 := by kernel_rfl
  i168 := by kernel_rfl
  i171 := by kernel_rfl
  i173 := by kernel_rfl
  i175 := by kernel_rfl
  i210 := by kernel_rfl
  i212 := by kernel_rfl
  i232 := by kernel_rfl
  i233 := by kernel_rfl
  m15 := by kernel_rfl
  m16 := by kernel_rfl
  m17 := by kernel_rfl
  m18 := by kernel_rfl
  m19 := by kernel_rfl
  c0 := by kernel_rfl
  c2 := by kernel_rfl
  c3 := by kernel_rfl
  c4 := by kernel_rfl
  c5 := by kernel_rfl
  c9 := by kernel_rfl
  c20 := by kernel_rfl
  c21 := by kernel_rfl
  c37 := by kernel_rfl
  c46 := by kernel_rfl
  c51 := by kernel_rfl
  c53 := by kernel_rfl
  c75 := by kernel_rfl
  c76 := by kernel_rfl
  c80 := by kernel_rfl
  c85 := by kernel_rfl
  c127 := by kernel_rfl
  c143 := by kernel_rfl
  c145 := by kernel_rfl
  c167 := by kernel_rfl
  c168 := by kernel_rfl
  c171 := by kernel_rfl
  c173 := by kernel_rfl
  c175 := by kernel_rfl
  c210 := by kernel_rfl
  c212 := by kernel_rfl
  c213 := by kernel_rfl
  c232 := by kernel_rfl
  c233 := by kernel_rfl
end Go.Proofs.YtdfjbnfdknpahaaGreatDoor
/- A number's word, plainly: what Atoi and Itoa say of it. -/
namespace Go.Proofs.YtdfjbnfdknpahaaGreatDoor
set_option linter.unusedVariables false
set_option linter.unusedSimpArgs false
open Go.RowKit
theorem parse_dig : ∀ (s : List UInt8) (acc k : Nat), s.all digOk = true → acc < 10 ^ k → s.length + k ≤ 17 → Lib.parseUint10 acc s = .ok (s.foldl (fun n b => n * 10 + (b.toNat - 48)) acc)
  | [], acc, k, _, _, _ => rfl
  | c :: r, acc, k, h, ha, hk => by
    rw [List.all_cons, Bool.and_eq_true] at h
    have hc : 48 ≤ c.toNat ∧ c.toNat ≤ 57 := by
      have := h.1
      unfold digOk at this
      simpa using this
    have hp : 10 ^ (k + 1) = 10 ^ k * 10 := Nat.pow_succ ..
    rw [List.length_cons] at hk
    have h17 : 10 ^ (k + 1) ≤ 10 ^ 17 := Nat.pow_le_pow_right (by decide) (by omega)
    have h17' : (10 : Nat) ^ 17 = 100000000000000000 := by decide
    rw [Lib.parseUint10, if_pos hc, if_neg (by omega), if_neg (by omega), parse_dig r _ (k + 1) h.2 (by omega) (by omega)]
    rfl
theorem numOk_parts {s : List UInt8} (h : numOk s = true) : s ≠ [] ∧ s.length ≤ 4 ∧ (s.getD 0 0 = 48 → s.length ≤ 1) ∧ s.all digOk = true := by
  unfold numOk at h
  simp only [Bool.and_eq_true, decide_eq_true_eq, Bool.not_eq_true', Bool.and_eq_false_iff, decide_eq_false_iff_not] at h
  refine ⟨h.1, h.2.1, fun h0 => ?_, h.2.2.2⟩
  rcases h.2.2.1 with h3 | h3
  · exact absurd h0 h3
  · omega
theorem numOk_mk {s : List UInt8} (h1 : s ≠ []) (h2 : s.length ≤ 4) (h3 : s.getD 0 0 = 48 → s.length ≤ 1) (h4 : s.all digOk = true) : numOk s = true := by
  unfold numOk
  simp only [Bool.and_eq_true, decide_eq_true_eq, Bool.not_eq_true', Bool.and_eq_false_iff, decide_eq_false_iff_not]
  refine ⟨h1, h2, ?_, h4⟩
  by_cases h0 : s.getD 0 0 = 48
  · right; have := h3 h0; omega
  · exact .inl h0
theorem num_atoi {s : List UInt8} (h : numOk s = true) : Lib.atoiAll s = .ok (numV s : Nat) := by
  obtain ⟨h1, h2, h3, h4⟩ := numOk_parts h
  have hlt := numV_le s.length s rfl h4
  have hlt2 : numV s < 100000 := by
    have : 10 ^ s.length ≤ 10 ^ 4 := Nat.pow_le_pow_right (by decide) h2
    omega
  have hp := parse_dig s 0 1 h4 (by decide) (by omega)
  cases s with
  | nil => exact absurd rfl h1
  | cons c r =>
    have hc : 48 ≤ c.toNat ∧ c.toNat ≤ 57 := by
      rw [List.all_cons, Bool.and_eq_true] at h4
      have := h4.1
      unfold digOk at this
      simpa using this
    rw [Lib.atoiAll_plain c r (by omega) (by omega)]
    have e : Lib.parseMag (c :: r) = .ok (numV (c :: r)) := by
      unfold Lib.parseMag
      rw [if_neg (by simp), hp]
      rfl
    rw [e]
    unfold Lib.signless
    first | done | (simp only []; rw [if_neg (by omega)]) | (simp; omega)
theorem dec_num : ∀ (m : Nat) (s : List UInt8), s.length = m → s ≠ [] → s.all digOk = true → (s.getD 0 0 = 48 → s.length ≤ 1) → Lib.decDigits (numV s) = s := by
  intro m
  induction m with
  | zero => intro s h h1; exact absurd (List.length_eq_zero_iff.1 h) h1
  | succ m ih =>
    intro s h h1 h4 h3
    rcases List.eq_nil_or_concat s with rfl | ⟨r, b, rfl⟩
    · exact absurd rfl h1
    rw [List.concat_eq_append] at h h4 h3 ⊢
    have hb : 48 ≤ b.toNat ∧ b.toNat ≤ 57 := by
      rw [List.all_append, Bool.and_eq_true] at h4
      have h5 : digOk b = true := by simpa using h4.2
      unfold digOk at h5
      simpa using h5
    have hb2 : UInt8.ofNat (48 + (b.toNat - 48)) = b := by
      rw [show 48 + (b.toNat - 48) = b.toNat by omega]; simp
    rw [numV_snoc]
    by_cases hr : r = []
    · subst hr
      show Lib.decDigits (0 * 10 + (b.toNat - 48)) = [b]
      rw [Nat.zero_mul, Nat.zero_add, Lib.decDigits_one (by omega), hb2]
    · have hl : 2 ≤ (r ++ [b]).length := by
        cases r with
        | nil => exact absurd rfl hr
        | cons x q => simp
      have h0 : ¬ r.getD 0 0 = 48 := fun hc => by
        have : (r ++ [b]).getD 0 0 = 48 := by
          cases r with
          | nil => exact absurd rfl hr
          | cons x q => exact hc
        have := h3 this
        omega
      have ih2 := ih r (by rw [List.length_append] at h; simpa using h) hr (by rw [List.all_append, Bool.and_eq_true] at h4; exact h4.1) (fun hc => absurd hc h0)
      have hpos : 1 ≤ numV r := by
        rcases Nat.eq_zero_or_pos (numV r) with hz | hz
        · rw [hz, Lib.decDigits_one (by decide)] at ih2
          rw [← ih2] at h0
          exact absurd rfl h0
        · exact hz
      rw [Lib.decDigits, dif_neg (by omega), show (numV r * 10 + (b.toNat - 48)) / 10 = numV r by omega, ih2, show (numV r * 10 + (b.toNat - 48)) % 10 = b.toNat - 48 by omega, hb2]
theorem num_itoa {s : List UInt8} (h : numOk s = true) : Lib.itoa (numV s : Nat) = s := by
  obtain ⟨h1, h2, h3, h4⟩ := numOk_parts h
  unfold Lib.itoa
  rw [if_neg (by omega), Int.toNat_natCast]
  exact dec_num _ s rfl h1 h4 h3
theorem dec_shape : ∀ n : Nat, Lib.decDigits n ≠ [] ∧ (Lib.decDigits n).all digOk = true ∧ ((Lib.decDigits n).getD 0 0 = 48 → n = 0) := by
  intro n
  induction n using Nat.strongRecOn with
  | _ n ih =>
    have dg : ∀ d, d < 10 → digOk (UInt8.ofNat (48 + d)) = true := by decide
    have d0 : ∀ d, d < 10 → UInt8.ofNat (48 + d) = 48 → d = 0 := by decide
    by_cases h : n < 10
    · rw [Lib.decDigits_one h]
      exact ⟨by simp, by rw [List.all_cons, dg n h]; rfl, fun h0 => d0 n h h0⟩
    · obtain ⟨h1, h2, h3⟩ := ih (n / 10) (by omega)
      rw [Lib.decDigits, dif_neg h]
      refine ⟨by simp, ?_, fun h0 => ?_⟩
      · rw [List.all_append, h2]
        rw [List.all_cons, dg (n % 10) (by omega)]; rfl
      · have : (Lib.decDigits (n / 10)).getD 0 0 = 48 := by
          cases hd : Lib.decDigits (n / 10) with
          | nil => exact absurd hd h1
          | cons x q => rw [hd] at h0; exact h0
        have := h3 this
        omega
theorem itoa_num {s : List UInt8} {v : Int} (hv : 0 ≤ v) (hl : s.length ≤ 4) (h : Lib.itoa v = s) : numOk s = true := by
  unfold Lib.itoa at h
  rw [if_neg (by omega)] at h
  obtain ⟨h1, h2, h3⟩ := dec_shape v.toNat
  rw [h] at h1 h2 h3
  refine numOk_mk h1 hl (fun h0 => ?_) h2
  have := h3 h0
  rw [this, Lib.decDigits_one (by decide)] at h
  rw [← h]
  decide
end Go.Proofs.YtdfjbnfdknpahaaGreatDoor
/- errors.As at a number of api, and what plain.Told makes of an error: its number. (After the guide's Toyas example, at a target that is a number.) -/
namespace Go.Proofs.YtdfjbnfdknpahaaGreatDoor
open Go.RowKit Go.Extern.Stop Go.Stop Go.Extern
set_option linter.unusedVariables false
namespace As
/-- The variable errors.errorType holds the handle of the type error. -/
def Handle (w : World) : Prop := w.cell? ⟨1, 0, none⟩ = some (.iface 175 (.agg #[.pointer (some ⟨10, 34, none⟩)]))
theorem valueOfT (t : Addr) (w : World) : (ReflectliteValue.unpack (.iface 107 (.pointer (some t)))).run Tryz.prog w
    = .ok (.agg #[.pointer (some ⟨10, 107, none⟩), .pointer (some ⟨w.heap.size, 0, none⟩), .int .u64 150]) (w.alloc (.cells #[.pointer (some t)] 107)) := by kernel_rfl
theorem typeT (a : Addr) (w : World) : (ReflectliteValue.methodAny (ReflectliteValue.valueError "reflectlite.Value.Type" 0) (fun t _ _ _ => ReflectliteType.toType t) #[.agg #[.pointer (some ⟨10, 107, none⟩), .pointer (some a), .int .u64 150]]).run Tryz.prog w
    = .ok (.iface 175 (.agg #[.pointer (some ⟨10, 107, none⟩)])) w := by kernel_rfl
theorem methodKind (h : Value) (w : World) : (Go.method 390 175 (.agg #[h]) "Kind").run Tryz.prog w = .ok (183, h) w := by kernel_rfl
theorem kindT (w : World) : ((ReflectliteType.abiMethod fun t => (fun a : Nat => Value.int IntKind.u8 (a : Int)) <$> Rtype.kind t) #[.pointer (some ⟨10, 107, none⟩)]).run Tryz.prog w = .ok (.int .u8 22) w := by kernel_rfl
theorem kindE (w : World) : ((ReflectliteType.abiMethod fun t => (fun a : Nat => Value.int IntKind.u8 (a : Int)) <$> Rtype.kind t) #[.pointer (some ⟨10, 90, none⟩)]).run Tryz.prog w = .ok (.int .u8 2) w := by kernel_rfl
theorem rlm (z : Sem Value) (f : TypeId → Addr → Nat → Nat → Sem Value) (v : Value) :
    ReflectliteValue.method z f #[v] = (do match ← ReflectliteValue.parts v with | none => z | some (t, a, fl) => f t a fl (fl % 32)) := rfl
theorem partsT (a : Addr) (w : World) : (ReflectliteValue.parts (.agg #[.pointer (some ⟨10, 107, none⟩), .pointer (some a), .int .u64 150])).run Tryz.prog w = .ok (some (107, a, 150)) w := by kernel_rfl
theorem isNilT (a p : Addr) (W : World) (ha : W.cell? a = some (.pointer (some p))) :
    (ReflectliteValue.method (ReflectliteValue.valueError "reflectlite.Value.IsNil" 0) ReflectliteValue.isNil #[.agg #[.pointer (some ⟨10, 107, none⟩), .pointer (some a), .int .u64 150]]).run Tryz.prog W = .ok (.bool false) W := by
  rw [rlm]
  simp only [Sem.run_bind, partsT, Result.andThen]
  simp [ReflectliteValue.isNil, loadVar, isAgg, underlying, Tryz.underlying107, ha, Result.andThen]
theorem methodElem (h : Value) (w : World) : (Go.method 390 175 (.agg #[h]) "Elem").run Tryz.prog w = .ok (194, .agg #[h]) w := by kernel_rfl
theorem methodImplements (h : Value) (w : World) : (Go.method 390 175 (.agg #[h]) "Implements").run Tryz.prog w = .ok (195, .agg #[h]) w := by kernel_rfl
theorem methodAssignableTo (h : Value) (w : World) : (Go.method 390 175 (.agg #[h]) "AssignableTo").run Tryz.prog w = .ok (192, .agg #[h]) w := by kernel_rfl
theorem elemT (w : World) : (ReflectliteType.method ReflectliteType.elem #[.agg #[.pointer (some ⟨10, 107, none⟩)]]).run Tryz.prog w = .ok (.iface 175 (.agg #[.pointer (some ⟨10, 90, none⟩)])) w := by kernel_rfl
theorem implementsE (w : World) : (ReflectliteType.relation "Implements" ReflectliteType.implements_ #[.agg #[.pointer (some ⟨10, 90, none⟩)], .iface 175 (.agg #[.pointer (some ⟨10, 34, none⟩)])]).run Tryz.prog w = .ok (.bool true) w := by kernel_rfl
theorem typeOfE (v : Value) (w : World) : (ReflectliteType.typeOf #[.iface 90 v]).run Tryz.prog w = .ok (.iface 175 (.agg #[.pointer (some ⟨10, 90, none⟩)])) w := by kernel_rfl
theorem assignableE (w : World) : (ReflectliteType.relation "AssignableTo" ReflectliteType.assignableTo #[.agg #[.pointer (some ⟨10, 90, none⟩)], .iface 175 (.agg #[.pointer (some ⟨10, 90, none⟩)])]).run Tryz.prog w = .ok (.bool true) w := by kernel_rfl
theorem valueOfE (n : Int) (w : World) : (ReflectliteValue.unpack (.iface 90 (.int .i64 n))).run Tryz.prog w
    = .ok (.agg #[.pointer (some ⟨10, 90, none⟩), .pointer (some ⟨w.heap.size, 0, none⟩), .int .u64 130]) (w.alloc (.cells #[.int .i64 n] 90)) := by kernel_rfl
theorem elemOfT (w : World) : (Rtype.elem? 107).run Tryz.prog w = .ok (some 90) w := by kernel_rfl
theorem mkE (p : Addr) (w : World) : (ReflectliteValue.mk 90 p ReflectliteValue.flagAddr).run Tryz.prog w = .ok (.agg #[.pointer (some ⟨10, 90, none⟩), .pointer (some p), .int .u64 386]) w := by kernel_rfl
theorem elemVT (a p : Addr) (W : World) (ha : W.cell? a = some (.pointer (some p))) :
    (ReflectliteValue.method (ReflectliteValue.valueError "reflectlite.Value.Elem" 0) ReflectliteValue.elem #[.agg #[.pointer (some ⟨10, 107, none⟩), .pointer (some a), .int .u64 150]]).run Tryz.prog W
      = .ok (.agg #[.pointer (some ⟨10, 90, none⟩), .pointer (some p), .int .u64 386]) W := by
  rw [rlm]
  simp only [Sem.run_bind, partsT, Result.andThen]
  simp [ReflectliteValue.elem, loadVar, isAgg, underlying, Tryz.underlying107, ha, Result.andThen, elemOfT, mkE]
theorem rls (v x : Value) : ReflectliteValue.set #[v, x] = (do
    let (some (dst, a, fl), some (src, b, _)) := (← ReflectliteValue.parts v, ← ReflectliteValue.parts x)
      | unsupported (.noEntry "extern/(internal/reflectlite.Value).Set.zeroValue")
    if fl / ReflectliteValue.flagAddr % 2 == 0 then unsupported (.noEntry "extern/(internal/reflectlite.Value).Set.unaddressable")
    let val ← loadVar src b
    if ← Rtype.directlyAssignable dst src then storeVar dst a val
    else if ← Rtype.implements dst src then
      if (← Rtype.kind src) == 20 then
        match val with
        | .nilIface => unsupported (.noEntry "extern/reflectlite: a nil value of one interface type handed on as a value of another")
        | _ => storeVar dst a val
      else storeVar dst a (.iface src val)
    else panicString ("reflectlite.Set: value of type " ++ (← Rtype.spelt src) ++ " is not assignable to type " ++ (← Rtype.spelt dst))
    pure (.tuple #[])) := rfl
theorem partsEa (a : Addr) (w : World) : (ReflectliteValue.parts (.agg #[.pointer (some ⟨10, 90, none⟩), .pointer (some a), .int .u64 386])).run Tryz.prog w = .ok (some (90, a, 386)) w := by kernel_rfl
theorem partsE (a : Addr) (w : World) : (ReflectliteValue.parts (.agg #[.pointer (some ⟨10, 90, none⟩), .pointer (some a), .int .u64 130])).run Tryz.prog w = .ok (some (90, a, 130)) w := by kernel_rfl
theorem directE (w : World) : (Rtype.directlyAssignable 90 90).run Tryz.prog w = .ok true w := by kernel_rfl
theorem setE (ta b : Addr) (n : Int) (old : Value) (W : World) (hb : W.cell? b = some (.int .i64 n)) (ht : W.cell? ta = some old) (hf : W.frozen? ta = false) :
    (ReflectliteValue.set #[.agg #[.pointer (some ⟨10, 90, none⟩), .pointer (some ta), .int .u64 386], .agg #[.pointer (some ⟨10, 90, none⟩), .pointer (some b), .int .u64 130]]).run Tryz.prog W
      = .ok (.tuple #[]) (W.setCell ta (.int .i64 n)) := by
  rw [rls]
  simp only [Sem.run_bind, partsEa, partsE, Result.andThen]
  simp [ReflectliteValue.flagAddr, loadVar, isAgg, underlying, Tryz.underlying90, hb, Result.andThen, directE, storeVar, Value.cells, storeCells, Addr.add]
  rw [run_store Tryz.prog W ta _ _ (by rfl)]
  simp [ht, hf]
set_option maxHeartbeats 4000000 in
theorem as_hit (n : Int) (t : Addr) (old : Value) (w : World) (hg : Handle w) (ht0 : w.cell? t = some old) (hf0 : w.frozen? t = false) :
    Calls Tryz.prog 38 #[.iface 90 (.int .i64 n), .iface 107 (.pointer (some t))] w fun ev w' => ev = .returned (.bool true) ∧ w' = ((((w.alloc (.cells #[.pointer (some t)] 107)).alloc (.cells #[.pointer (some ⟨10, 107, none⟩), .pointer (some ⟨w.heap.size, 0, none⟩), .int .u64 150] 142)).alloc (.cells #[.pointer (some ⟨10, 107, none⟩), .pointer (some ⟨w.heap.size, 0, none⟩), .int .u64 150] 142)).alloc (.cells #[.int .i64 n] 90)).setCell t (.int .i64 n) := by
  have hg : w.cell? ⟨1, 0, none⟩ = some (.iface 175 (.agg #[.pointer (some ⟨10, 34, none⟩)])) := hg
  have h6 := @run_callFunc_extern Tryz.prog 62 _ (fun args => ReflectliteValue.unpack (args.getD 0 (.tuple #[]))) Tryz.func62 (by kernel_rfl) (by kernel_rfl) (by kernel_rfl) (by kernel_rfl)
  have h7 := @run_callFunc_extern Tryz.prog 63 _ (ReflectliteValue.methodAny (ReflectliteValue.valueError "reflectlite.Value.Type" 0) (fun t _ _ _ => ReflectliteType.toType t)) Tryz.func63 (by kernel_rfl) (by kernel_rfl) (by kernel_rfl) (by kernel_rfl)
  have h8 := @run_callFunc_extern Tryz.prog 64 _ (ReflectliteValue.method (ReflectliteValue.valueError "reflectlite.Value.IsNil" 0) ReflectliteValue.isNil) Tryz.func64 (by kernel_rfl) (by kernel_rfl) (by kernel_rfl) (by kernel_rfl)
  have h27 := @run_callFunc_extern Tryz.prog 183 _ (ReflectliteType.abiMethod fun t => do pure (.int .u8 (← Rtype.kind t))) Tryz.func183 (by kernel_rfl) (by kernel_rfl) (by kernel_rfl) (by kernel_rfl)
  have h37 := @run_callFunc_extern Tryz.prog 194 _ (ReflectliteType.method ReflectliteType.elem) Tryz.func194 (by kernel_rfl) (by kernel_rfl) (by kernel_rfl) (by kernel_rfl)
  have h38 := @run_callFunc_extern Tryz.prog 195 _ (ReflectliteType.relation "Implements" ReflectliteType.implements_) Tryz.func195 (by kernel_rfl) (by kernel_rfl) (by kernel_rfl) (by kernel_rfl)
  have h10 := @run_callFunc_extern Tryz.prog 89 _ ReflectliteType.typeOf Tryz.func89 (by kernel_rfl) (by kernel_rfl) (by kernel_rfl) (by kernel_rfl)
  have h35 := @run_callFunc_extern Tryz.prog 192 _ (ReflectliteType.relation "AssignableTo" ReflectliteType.assignableTo) Tryz.func192 (by kernel_rfl) (by kernel_rfl) (by kernel_rfl) (by kernel_rfl)
  have h11 := @run_callFunc_extern Tryz.prog 90 _ (ReflectliteValue.method (ReflectliteValue.valueError "reflectlite.Value.Elem" 0) ReflectliteValue.elem) Tryz.func90 (by kernel_rfl) (by kernel_rfl) (by kernel_rfl) (by kernel_rfl)
  have h12 := @run_callFunc_extern Tryz.prog 91 _ ReflectliteValue.set Tryz.func91 (by kernel_rfl) (by kernel_rfl) (by kernel_rfl) (by kernel_rfl)
  have tO := typeOfE
  have mA := methodAssignableTo
  have a25 := assignableE
  have v25 := valueOfE
  have f6 := valueOfT
  have f7 := typeT
  have mK := methodKind
  have mE := methodElem
  have mI := methodImplements
  have k27 := kindT
  have k25 := kindE
  have e27 := elemT
  have i25 := implementsE
  have n8 := isNilT ⟨w.heap.size, 0, none⟩ t ((w.alloc (.cells #[.pointer (some t)] 107)).alloc (.cells #[.pointer (some ⟨10, 107, none⟩), .pointer (some ⟨w.heap.size, 0, none⟩), .int .u64 150] 142)) (by simp)
  have hlt : 1 < w.heap.size := World.block_lt_of_cell? _ _ hg
  have hg2 : ((w.alloc (.cells #[.pointer (some t)] 107)).alloc (.cells #[.pointer (some ⟨10, 107, none⟩), .pointer (some ⟨w.heap.size, 0, none⟩), .int .u64 150] 142)).cell? ⟨1, 0, none⟩ = some (.iface 175 (.agg #[.pointer (some ⟨10, 34, none⟩)])) := by
    rw [World.cell?_alloc_lt _ _ ⟨1, 0, none⟩ (Nat.lt_of_lt_of_le hlt (by simp)), World.cell?_alloc_lt _ _ ⟨1, 0, none⟩ hlt]; exact hg
  have htl : t.block < w.heap.size := by
    rcases Nat.lt_or_ge t.block w.heap.size with h | h
    · exact h
    · simp [World.cell?, Array.getElem?_eq_none h] at ht0
  have el := elemVT ⟨w.heap.size, 0, none⟩ t (((w.alloc (.cells #[.pointer (some t)] 107)).alloc (.cells #[.pointer (some ⟨10, 107, none⟩), .pointer (some ⟨w.heap.size, 0, none⟩), .int .u64 150] 142)).alloc (.cells #[.pointer (some ⟨10, 107, none⟩), .pointer (some ⟨w.heap.size, 0, none⟩), .int .u64 150] 142)) (by rw [World.cell?_alloc_lt _ _ ⟨w.heap.size, 0, none⟩ (by simp; omega)]; simp)
  have st := setE t ⟨w.heap.size + 1 + 1 + 1, 0, none⟩ n old ((((w.alloc (.cells #[.pointer (some t)] 107)).alloc (.cells #[.pointer (some ⟨10, 107, none⟩), .pointer (some ⟨w.heap.size, 0, none⟩), .int .u64 150] 142)).alloc (.cells #[.pointer (some ⟨10, 107, none⟩), .pointer (some ⟨w.heap.size, 0, none⟩), .int .u64 150] 142)).alloc (.cells #[.int .i64 n] 90))
    (by rw [World.cell?_alloc_at _ _ _ _ (by simp)]; rfl)
    (by rw [World.cell?_alloc_lt _ _ t (by simp; omega), World.cell?_alloc_lt _ _ t (by simp; omega), World.cell?_alloc_lt _ _ t (by simp; omega), World.cell?_alloc_lt _ _ t htl]; exact ht0)
    (by rw [World.frozen?_alloc_old _ _ t (by simp; omega), World.frozen?_alloc_old _ _ t (by simp; omega), World.frozen?_alloc_old _ _ t (by simp; omega), World.frozen?_alloc_old _ _ t (Nat.ne_of_lt htl)]; exact hf0)
  go_enter Tryz.func38, Tryz.ntmps38
  go_wp2
  refine wp_loop_rounds 1 ?_
  rw [rounds_succ]
  go_wp2
  go_ret
  exact ⟨rfl, rfl⟩
end As
end Go.Proofs.YtdfjbnfdknpahaaGreatDoor
/- What run reads of the world; strconv.Atoi and Itoa at every word; run's number. -/
namespace Go.Proofs.YtdfjbnfdknpahaaGreatDoor
set_option linter.unusedVariables false
set_option linter.unusedSimpArgs false
open Go.RowKit
structure RunW (w : World) : Prop where
  hg : As.Handle w
  tab : Lib.TabIs Tryz.prog w "internal/strconv.uint64pow10" .u64 Lib.pow10Tab
  es : ∃ te pe, w.cell? ⟨5, 0, none⟩ = some (.iface te pe)
  er : ∃ te pe, w.cell? ⟨6, 0, none⟩ = some (.iface te pe)
  un : w.cell? ⟨0, 0, none⟩ = some (.iface 90 (.int .i64 2))
theorem RunW.below {w w' : World} (h : RunW w) (hb : Below w.heap.size w w') : RunW w' where
  hg := by
    have hlt := World.block_lt_of_cell? _ _ h.hg
    unfold As.Handle; rw [hb.cell (p := ⟨1, 0, none⟩) hlt]; exact h.hg
  tab := (Lib.tabBelow_of_tabIs h.tab) w' hb
  es := by
    obtain ⟨te, pe, hc⟩ := h.es
    exact ⟨te, pe, by rw [hb.cell (World.block_lt_of_cell? _ _ hc)]; exact hc⟩
  er := by
    obtain ⟨te, pe, hc⟩ := h.er
    exact ⟨te, pe, by rw [hb.cell (World.block_lt_of_cell? _ _ hc)]; exact hc⟩
  un := by rw [hb.cell (World.block_lt_of_cell? _ _ h.un)]; exact h.un
set_option maxRecDepth 100000 in
set_option maxHeartbeats 4000000 in
theorem itoa_any {w0 w : World} {R : HProp} (hW : RunW w0) (n : Int) (hn : I64 n) (h : Own w0 R w) :
    Calls Tryz.prog 79 #[.int .i64 n] w fun e w' => e = .returned (.string (tx (Lib.itoa n))) ∧ Own w0 R w' := by
  refine Calls.mono (Any.strconv_Itoa itL n (by have := hn; unfold I64 at this; omega) (by have := hn; unfold I64 at this; omega) w (hW.below h.below).tab) ?_
  rintro e w' ⟨rfl, k, os, rfl⟩
  refine ⟨rfl, h.und ⟨rfl, rfl, rfl, ?_, fun j hj => Array.getElem?_append_left hj⟩⟩
  show w.heap.size ≤ (w.heap ++ os).size
  simp
set_option maxRecDepth 100000 in
set_option maxHeartbeats 4000000 in
theorem atoi_any {w0 w : World} {R : HProp} (hW : RunW w0) (s : List UInt8) (hs : s.length ≤ 90000) (h : Own w0 R w) :
    Calls Tryz.prog 95 #[.string (tx s)] w fun e w' => ∃ v ev, e = .returned (.tuple #[.int .i64 v, ev]) ∧ Own w0 R w' ∧ ((ev = .nilIface ∧ Lib.atoiAll s = .ok v) ∨ ((∃ te pe, ev = .iface te pe) ∧ numOk s = false)) := by
  have hsz := tx_size s
  have hww := hW.below h.below
  cases ha : Lib.atoiAll s
  · rename_i v
    refine Calls.mono (Any.strconv_Atoi_ok atL (tx s) (by omega) v (by rw [tx_list]; exact ha) w) ?_
    rintro e w' ⟨rfl, hw'⟩
    refine ⟨v, .nilIface, rfl, h.und ?_, .inl ⟨rfl, rfl⟩⟩
    rcases hw' with rfl | ⟨t, rfl⟩
    · exact Below.refl _ _
    · exact Lib.bytesWorld_below _ _ _
  · skip
    obtain ⟨te, pe, hc⟩ := hww.es
    refine Calls.mono (Any.strconv_Atoi_syntax atL (tx s) (by omega) (by rw [tx_list]; exact ha) (.iface te pe) w hc (.inr ⟨_, _, rfl⟩)) ?_
    rintro e w' ⟨N, rfl, _, _, hb⟩
    refine ⟨_, _, rfl, h.und hb, .inr ⟨⟨_, _, rfl⟩, ?_⟩⟩
    cases hk : numOk s with
    | false => rfl
    | true => rw [num_atoi hk] at ha; cases ha
  · skip
    obtain ⟨te, pe, hc⟩ := hww.er
    refine Calls.mono (Any.strconv_Atoi_range atL (tx s) (by omega) (by rw [tx_list]; exact ha) (.iface te pe) w hc (.inr ⟨_, _, rfl⟩)) ?_
    rintro e w' ⟨N, rfl, _, _, hb⟩
    refine ⟨_, _, rfl, h.und hb, .inr ⟨⟨_, _, rfl⟩, ?_⟩⟩
    cases hk : numOk s with
    | false => rfl
    | true => rw [num_atoi hk] at ha; cases ha
end Go.Proofs.YtdfjbnfdknpahaaGreatDoor
/- run's number: a word that is a number. -/
namespace Go.Proofs.YtdfjbnfdknpahaaGreatDoor
set_option linter.unusedVariables false
set_option linter.unusedSimpArgs false
open Go.RowKit
set_option maxRecDepth 100000 in
set_option maxHeartbeats 4000000 in
theorem pnum_any {w0 w : World} {R : HProp} (hW : RunW w0) (s : List UInt8) (hs : s.length ≤ 90000) (h : Own w0 R w) :
    Calls Tryz.prog 72 #[.string (tx s)] w fun e w' => ∃ n, e = .returned (.tuple #[.int .i64 n, .bool (numOk s)]) ∧ (numOk s = true → n = (numV s : Nat)) ∧ Own w0 R w' := by
  obtain ⟨n, hn⟩ : ∃ n, n = s.length := ⟨_, rfl⟩
  have hlen : ∀ (ty : TypeId) (w : World), (Builtin.len_ #[9] ty #[.string (tx s)]).run Tryz.prog w = .ok (.int .i64 (n : Int)) w := fun ty w => by
    rw [run_len_string w _ _ _ Tryz.underlying9, tx_size, ← hn]; rfl
  have hA := atoi_any hW s hs h
  obtain ⟨B, hB⟩ : ∃ B, B = numOk s := ⟨_, rfl⟩
  have hI : ∀ (v : Int) (w2 : World), I64 v → Own w0 R w2 → Calls Tryz.prog 79 #[.int .i64 v] w2 fun e w' => e = .returned (.string (tx (Lib.itoa v))) ∧ Own w0 R w' := fun v w2 hv ho => itoa_any hW v hv ho
  obtain ⟨S, hS⟩ : ∃ S, S = tx s := ⟨_, rfl⟩
  rw [← hS] at hA hlen ⊢
  have hbnd : ∀ v, Lib.atoiAll s = .ok v → I64 v := fun v hv => by
    have := Lib.atoiAll_bounds hv
    unfold I64; omega
  rw [← hB] at hA ⊢
  have H := Lib.hid h; have HA := Lib.hid hA; have HI := Lib.hid hI; have HN := Lib.hid hn; have HS := Lib.hid hS; have HB := Lib.hid hB; have HBND := Lib.hid hbnd
  clear h hA hI hn hS hB hbnd
  go_enter Tryz.func72, Tryz.ntmps72
  go_wp2_with fail
  refine HA.out.mono ?_
  rintro e w2 ⟨v, ev, rfl, ho, hc⟩
  have HO := Lib.hid ho
  clear ho
  rcases hc with ⟨rfl, hok⟩ | ⟨⟨te, pe, rfl⟩, hno⟩
  · have hv := HBND.out v hok
    have HV := Lib.hid hv
    by_cases h0 : 0 ≤ v
    · by_cases h4 : n ≤ 4
      · have d4 : decide ((n : Int) ≤ 4) = true := by rw [decide_eq_true_eq]; omega
        have hit := HI.out v w2 hv HO.out
        have hIT := Lib.hid hit
        obtain ⟨T, hT⟩ : ∃ T, T = tx (Lib.itoa v) := ⟨_, rfl⟩
        have hnv : numOk s = true → v = (numV s : Nat) := fun hk => by
          rw [num_atoi hk] at hok
          injection hok with hok
          exact hok.symm
        have heq : (T.toList == S.toList) = B := by
          rw [hT, HS.out, ByteArray.toList_eq, ByteArray.toList_eq]
          show ((tx (Lib.itoa v)).data.toList == (tx s).data.toList) = B
          rw [tx_list, tx_list, HB.out]
          cases hk : numOk s with
          | true => rw [hnv hk, num_itoa hk]; simp
          | false =>
            rw [beq_eq_false_iff_ne]
            intro he
            rw [itoa_num h0 (by have := HN.out; omega) he] at hk
            cases hk
        rw [← hT] at hit
        rw [← HB.out] at hnv
        have HIT := Lib.hid hit; have HT := Lib.hid hT; have HOK := Lib.hid hok; have HV := Lib.hid hv; have HNV := Lib.hid hnv
        clear hit hT hok hv hnv
        go_wp2_with fail
        refine HIT.out.mono ?_
        rintro e w3 ⟨rfl, ho⟩
        have HO3 := Lib.hid ho
        clear ho
        go_wp2_with fail
        go_ret2
        exact ⟨v, rfl, HNV.out, HO3.out⟩
      · have d4 : decide ((n : Int) ≤ 4) = false := by rw [decide_eq_false_iff_not]; omega
        have hk : B = false := by
          rw [HB.out]
          cases hk : numOk s with
          | false => rfl
          | true => have := (numOk_parts hk).2.1; have := HN.out; omega
        subst hk
        have HOK := Lib.hid hok; have HV := Lib.hid hv
        clear hok hv
        go_wp2_with fail
        go_ret2
        first | exact ⟨v, rfl, fun hc => (by cases hc), HO.out⟩ | exact ⟨⟨v, rfl⟩, HO.out⟩
    · have hk : B = false := by
        rw [HB.out]
        cases hk : numOk s with
        | false => rfl
        | true =>
          rw [num_atoi hk] at hok
          injection hok with hok
          omega
      subst hk
      have hlt : v < 0 := by omega
      have HOK := Lib.hid hok; have HV := Lib.hid hv; have H0 := Lib.hid h0
      clear hok hv h0
      go_wp2_with fail
      go_ret2
      first | exact ⟨v, rfl, fun hc => (by cases hc), HO.out⟩ | exact ⟨⟨v, rfl⟩, HO.out⟩
  · subst hno
    go_wp2_with fail
    go_ret2
    first | exact ⟨v, rfl, fun hc => (by cases hc), HO.out⟩ | exact ⟨⟨v, rfl⟩, HO.out⟩
end Go.Proofs.YtdfjbnfdknpahaaGreatDoor
/- strings.TrimSuffix at the end of a line. -/
namespace Go.Proofs.YtdfjbnfdknpahaaGreatDoor
set_option linter.unusedVariables false
set_option linter.unusedSimpArgs false
open Go.RowKit
def endsNl (s : List UInt8) : Bool := decide (s.getLast? = some 10)
def trimB (s : List UInt8) : List UInt8 := if endsNl s = true then s.dropLast else s
set_option maxRecDepth 100000 in
set_option maxHeartbeats 4000000 in
theorem hasSuf_any {w : World} (s : List UInt8) (hs : s.length ≤ 100000) :
    Calls Tryz.prog 66 #[.string (tx s), .string (tx [10])] w fun e w' => e = .returned (.bool (endsNl s)) ∧ w = w' := by
  obtain ⟨n, hn⟩ : ∃ n, n = s.length := ⟨_, rfl⟩
  have hlen : ∀ (ty : TypeId) (w : World), (Builtin.len_ #[9] ty #[.string (tx s)]).run Tryz.prog w = .ok (.int .i64 (n : Int)) w := fun ty w => by
    rw [run_len_string w _ _ _ Tryz.underlying9, tx_size, ← hn]; rfl
  have hlen2 : ∀ (ty : TypeId) (w : World), (Builtin.len_ #[9] ty #[.string (tx [10])]).run Tryz.prog w = .ok (.int .i64 1) w := fun ty w => by
    rw [run_len_string w _ _ _ Tryz.underlying9, tx_size]; rfl
  rw [← hn] at hs
  by_cases h0 : s = []
  · have hn0 : n = 0 := by rw [hn, h0]; rfl
    have he : endsNl s = false := by rw [h0]; rfl
    rw [he]
    subst hn0
    obtain ⟨S, hS⟩ : ∃ S, S = tx s := ⟨_, rfl⟩
    obtain ⟨P, hP⟩ : ∃ P, P = tx [10] := ⟨_, rfl⟩
    rw [← hS] at hlen ⊢
    rw [← hP] at hlen2 ⊢
    have HN := Lib.hid hn; have H0 := Lib.hid h0; have HE := Lib.hid he; have HS := Lib.hid hS; have HP := Lib.hid hP
    clear hn h0 he hS hP
    go_enter Tryz.func66, Tryz.ntmps66
    go_wp2_with fail
    go_ret
    exact ⟨rfl, rfl⟩
  have hpos : 1 ≤ n := by rw [hn]; exact List.length_pos_iff.2 h0
  obtain ⟨r, b, hrb⟩ : ∃ r b, s = r ++ [b] := ⟨s.dropLast, s.getLast h0, (List.dropLast_concat_getLast h0).symm⟩
  have hrl : r.length = n - 1 := by rw [hn, hrb, List.length_append]; simp
  have he : endsNl s = decide (b = 10) := by unfold endsNl; rw [hrb, List.getLast?_append]; simp
  have hsl2 : ∀ (w : World), (Instr.slice 9 (.string (tx s)) (some (.int .i64 ((n : Int) - 1))) none none).run Tryz.prog w = .ok (.string (tx [b])) w := fun w => by
    rw [run_slice_string_l w 9 (tx s) Tryz.underlying9 .i64 _ (by omega) (by rw [tx_size]; omega), show ((n : Int) - 1).toNat = n - 1 by omega, tx_extract, tx_size, ← hn, hrb, List.drop_append_of_le_length (by omega), ← hrl, List.drop_length]
    simp
    rw [List.take_of_length_le (by simp; omega)]
  have hcmp : ((tx [b]).toList == (tx [10]).toList) = decide (b = 10) := by
    rw [ByteArray.toList_eq, ByteArray.toList_eq]
    show (([b] : List UInt8) == [10]) = _
    simp [List.cons_beq_cons]
    first | rfl | (by_cases h : b = 10 <;> simp [h])
  rw [he]
  obtain ⟨Z, hZ⟩ : ∃ Z, Z = decide (b = 10) := ⟨_, rfl⟩
  rw [← hZ] at hcmp ⊢
  obtain ⟨S, hS⟩ : ∃ S, S = tx s := ⟨_, rfl⟩
  obtain ⟨P, hP⟩ : ∃ P, P = tx [10] := ⟨_, rfl⟩
  obtain ⟨T, hT⟩ : ∃ T, T = tx [b] := ⟨_, rfl⟩
  rw [← hS] at hlen hsl2 ⊢
  rw [← hP] at hlen2 hcmp ⊢
  rw [← hT] at hsl2 hcmp
  have HN := Lib.hid hn; have H0 := Lib.hid h0; have HE := Lib.hid he; have HS := Lib.hid hS; have HP := Lib.hid hP; have HT := Lib.hid hT; have HZ := Lib.hid hZ; have HRB := Lib.hid hrb; have HRL := Lib.hid hrl
  clear hn h0 he hS hP hT hZ hrb hrl
  go_enter Tryz.func66, Tryz.ntmps66
  go_wp2_with fail
  go_ret
  exact ⟨rfl, rfl⟩
set_option maxRecDepth 100000 in
set_option maxHeartbeats 4000000 in
theorem trimSuf_any {w : World} (s : List UInt8) (hs : s.length ≤ 100000) :
    Calls Tryz.prog 40 #[.string (tx s), .string (tx [10])] w fun e w' => e = .returned (.string (tx (trimB s))) ∧ w = w' := by
  have hsuf := hasSuf_any (w := w) s hs
  obtain ⟨n, hn⟩ : ∃ n, n = s.length := ⟨_, rfl⟩
  have hlen : ∀ (ty : TypeId) (w : World), (Builtin.len_ #[9] ty #[.string (tx s)]).run Tryz.prog w = .ok (.int .i64 (n : Int)) w := fun ty w => by
    rw [run_len_string w _ _ _ Tryz.underlying9, tx_size, ← hn]; rfl
  have hlen2 : ∀ (ty : TypeId) (w : World), (Builtin.len_ #[9] ty #[.string (tx [10])]).run Tryz.prog w = .ok (.int .i64 1) w := fun ty w => by
    rw [run_len_string w _ _ _ Tryz.underlying9, tx_size]; rfl
  rw [← hn] at hs
  cases hz : endsNl s
  · have ht : trimB s = s := by unfold trimB; rw [if_neg (by rw [hz]; simp)]
    rw [ht]
    rw [hz] at hsuf
    obtain ⟨S, hS⟩ : ∃ S, S = tx s := ⟨_, rfl⟩
    obtain ⟨P, hP⟩ : ∃ P, P = tx [10] := ⟨_, rfl⟩
    rw [← hS] at hlen hsuf ⊢
    rw [← hP] at hlen2 hsuf ⊢
    have HN := Lib.hid hn; have HZ := Lib.hid hz; have HT := Lib.hid ht; have HS := Lib.hid hS; have HP := Lib.hid hP; have HSUF := Lib.hid hsuf
    clear hn hz ht hS hP hsuf
    go_enter Tryz.func40, Tryz.ntmps40
    go_wp2_with fail
    refine HSUF.out.mono ?_
    rintro e w2 ⟨rfl, rfl⟩
    go_wp2_with fail
    go_ret
    exact ⟨rfl, rfl⟩
  · have ht : trimB s = s.dropLast := by unfold trimB; rw [if_pos hz]
    have hne : s ≠ [] := by intro hc; rw [hc] at hz; cases hz
    have hpos : 1 ≤ n := by rw [hn]; exact List.length_pos_iff.2 hne
    have hsl : ∀ (w : World), (Instr.slice 9 (.string (tx s)) none (some (.int .i64 ((n : Int) - 1))) none).run Tryz.prog w = .ok (.string (tx s.dropLast)) w := fun w => by
      rw [run_slice_string_h w 9 (tx s) Tryz.underlying9 .i64 _ (by omega) (by rw [tx_size]; omega), show ((n : Int) - 1).toNat = n - 1 by omega, tx_extract, List.drop_zero, Nat.sub_zero, List.dropLast_eq_take, ← hn]
    rw [ht]
    rw [hz] at hsuf
    obtain ⟨S, hS⟩ : ∃ S, S = tx s := ⟨_, rfl⟩
    obtain ⟨P, hP⟩ : ∃ P, P = tx [10] := ⟨_, rfl⟩
    obtain ⟨D, hD⟩ : ∃ D, D = tx s.dropLast := ⟨_, rfl⟩
    rw [← hS] at hlen hsl hsuf ⊢
    rw [← hP] at hlen2 hsuf ⊢
    rw [← hD] at hsl ⊢
    have HN := Lib.hid hn; have HZ := Lib.hid hz; have HT := Lib.hid ht; have HS := Lib.hid hS; have HP := Lib.hid hP; have HD := Lib.hid hD; have HSUF := Lib.hid hsuf; have HNE := Lib.hid hne
    clear hn hz ht hS hP hD hsuf hne
    go_enter Tryz.func40, Tryz.ntmps40
    go_wp2_with fail
    refine HSUF.out.mono ?_
    rintro e w2 ⟨rfl, rfl⟩
    go_wp2_with fail
    go_ret
    exact ⟨rfl, rfl⟩
set_option maxRecDepth 100000 in
set_option maxHeartbeats 4000000 in
theorem trim_any {w : World} (s : List UInt8) (hs : s.length ≤ 100000) :
    Calls Tryz.prog 15 #[.string (tx s), .string (tx [10])] w fun e w' => e = .returned (.string (tx (trimB s))) ∧ w = w' := by
  have hsuf := trimSuf_any (w := w) s hs
  obtain ⟨S, hS⟩ : ∃ S, S = tx s := ⟨_, rfl⟩
  obtain ⟨P, hP⟩ : ∃ P, P = tx [10] := ⟨_, rfl⟩
  obtain ⟨D, hD⟩ : ∃ D, D = tx (trimB s) := ⟨_, rfl⟩
  rw [← hS, ← hP, ← hD] at hsuf
  rw [← hS, ← hP, ← hD]
  have HS := Lib.hid hS; have HP := Lib.hid hP; have HD := Lib.hid hD; have HSUF := Lib.hid hsuf
  clear hS hP hD hsuf
  go_enter Tryz.func15, Tryz.ntmps15
  go_wp2_with fail
  refine HSUF.out.mono ?_
  rintro e w2 ⟨rfl, rfl⟩
  go_wp2_with fail
  go_ret
  exact ⟨rfl, rfl⟩
end Go.Proofs.YtdfjbnfdknpahaaGreatDoor
