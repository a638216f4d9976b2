/- RunBegins: the answers to a beginning are a beginning of the answers. -/
import Derived.Test.YtdfjbnfdknpahaaGreatDoorMRunBegins30
import Derived.Test.YtdfjbnfdknpahaaGreatDoorRows
import Derived.ProofKit
import Derived.KernelRfl
import Derived.Test.YtdfjbnfdknpahaaGreatDoorMRunBegins5
import Derived.ChangeSame
import Derived.ChangeVars
import Derived.JoinedOf
import Derived.LaidLaws
import Derived.LaidHandle
import Derived.Stop.Joined
import Derived.Stop.LaidErr
import Derived.Lib.LaidTab
namespace Go.Proofs.YtdfjbnfdknpahaaGreatDoor
set_option linter.unusedVariables false
set_option linter.unusedSimpArgs false
open Go.RowKit
set_option maxRecDepth 100000 in
set_option maxHeartbeats 4000000 in
theorem runBegins_law (w : World) (hW : RunW w) (t : ByteArray) (_ht : t.size ≤ maxLen) (many : Int) (_hm : I64 many) :
    Calls Tryz.prog 4 #[.string t, .int .i64 many] w fun e w' => e = .returned (.bool true) ∧ Below w.heap.size w w' := by
  obtain ⟨l, hl⟩ : ∃ l, l = t.data.toList := ⟨_, rfl⟩
  have htx : t = tx l := by rw [hl, tx_of]
  subst htx
  obtain ⟨N, hN⟩ : ∃ N, N = l.length := ⟨_, rfl⟩
  have hln : ∀ (ty : TypeId) (w : World), (Builtin.len_ #[9] ty #[.string (tx l)]).run Tryz.prog w = .ok (.int .i64 (N : Int)) w := fun ty w => by
    rw [run_len_string w _ _ _ Tryz.underlying9, tx_size, ← hN]; rfl
  have hix : ∀ (i : Nat) (hi : i < l.length) (w : World), (Instr.index 9 (.string (tx l)) (.int .i64 (i : Int))).run Tryz.prog w = .ok (.int .u8 ((l[i].toNat : Nat) : Int)) w := fun i hi w => by
    rw [run_index_string w _ _ _ _ Tryz.underlying9, dif_pos (by rw [tx_size]; omega)]
    have h3 : (i : Int).toNat = i := by omega
    simp only [h3]
    rw [tx_get l i hi]
    first | done | rfl
  have hsl : ∀ (b : Nat), b ≤ l.length → ∀ (w : World), (Instr.slice 9 (.string (tx l)) none (some (.int .i64 (b : Int))) none).run Tryz.prog w = .ok (.string (tx (l.take b))) w := fun b h2 w => by
    rw [run_slice_string_h w 9 (tx l) Tryz.underlying9 .i64 _ (by omega) (by rw [tx_size]; omega), show ((b : Int)).toNat = b by omega, tx_extract]
    rfl
  have hrl := fun (w' : World) (hw : RunW w') => run_any hw l
  have hrt := fun (w' : World) (hw : RunW w') (k : Nat) => run_any hw (l.take k)
  have hr0 := run_any hW factT
  rw [show runB factT = factA from (by unfold runB; rw [if_neg (by decide)]; exact sess_fact)] at hr0
  have hf1 : tx factT = ⟨#[115, 97, 121, 32, 48, 32, 53, 10, 119, 97, 121, 10, 102, 108, 121, 10, 103, 105, 118, 101, 32, 49, 10]⟩ := rfl
  have hf2 : tx factA = ⟨#[111, 107, 10, 48, 62, 49, 58, 53, 32, 48, 62, 50, 58, 53, 10, 98, 97, 100, 10, 53, 10]⟩ := rfl
  obtain ⟨T, hT⟩ : ∃ T, T = tx l := ⟨_, rfl⟩
  rw [← hT] at hln
  simp only [← hT] at hix hsl hrl
  rw [← hT]
  have HL := Lib.hid hl; have HIX := Lib.hid hix; have HSL := Lib.hid hsl; have HRL := Lib.hid hrl; have HRT := Lib.hid hrt; have HT := Lib.hid hT
  clear hl hix hsl hrl hrt hT
  go_enter Tryz.func4, Tryz.ntmps4
  go_name_bytes_deep 23 FT hFT
  go_name_bytes_deep 21 FA hFA
  rw [hf1, hFT, hf2, hFA] at hr0
  have HR0 := Lib.hid hr0
  clear hr0
  clear hf1 hf2
  go_wp2_with fail
  refine HR0.out.mono ?_
  rintro e w2 ⟨rfl, hb2⟩
  have hW2 := hW.below hb2
  have hfn : (FA.toList != FA.toList) = false := by simp
  clear hFT hFA
  by_cases h3 : 3000 < N
  · have hr := HRL.out w2 hW2
    rw [show runB l = tooLong from (by unfold runB; rw [if_pos (by rw [← hN]; exact h3)]), show tx tooLong = ⟨#[116, 111, 111, 32, 108, 111, 110, 103, 10]⟩ from rfl] at hr
    have HR := Lib.hid hr; have HW2 := Lib.hid hW2; have HN := Lib.hid hN
    clear hr hW2 hN
    go_wp2_with fail
    refine HR.out.mono ?_
    rintro e w3 ⟨rfl, hb3⟩
    go_wp2_with fail
    go_ret
    exact ⟨rfl, hb2.trans (hb3.mono hb2.size)⟩
  · have HW2 := Lib.hid hW2; have HN := Lib.hid hN
    clear hW2 hN
    go_wp2_with fail
    go_loopw [7, 8] (fun kv nv wr => ∃ (k n : Nat), wr = w2 ∧ kv = .int .i64 k ∧ nv = .int .i64 n ∧ k ≤ N ∧ n ≤ k ∧ Hid (many ≤ (n : Int) → k = 0 ∨ l[k - 1]? = some 10)) (fun kv _ _ => N - (intOf kv).toNat)
    case atStart => exact ⟨0, 0, rfl, rfl, rfl, Nat.zero_le _, Nat.le_refl _, Lib.hid (fun _ => .inl rfl)⟩
    case round =>
      obtain ⟨k, n, rfl, rfl, rfl, hk, hnk, HI⟩ := hrel
      by_cases hgo : k < N ∧ (n : Int) < many
      · obtain ⟨hkN, hnm⟩ := hgo
        have hkl : k < l.length := by rw [← HN.out]; exact hkN
        have hx := HIX.out k hkl
        obtain ⟨b, hb⟩ : ∃ b, b = l[k] := ⟨_, rfl⟩
        rw [← hb] at hx
        by_cases h10 : b = 10
        · have t1 : (((b.toNat : Nat) : Int) == 10) = true := by rw [h10]; rfl
          have hnx : many ≤ ((n + 1 : Nat) : Int) → k + 1 = 0 ∨ l[k + 1 - 1]? = some 10 := fun _ => .inr (by rw [Nat.add_sub_cancel, List.getElem?_eq_getElem hkl, ← hb, h10])
          have HB := Lib.hid hb; have HNX := Lib.hid hnx; have H10 := Lib.hid h10
          clear hb hnx h10
          go_wp2_with fail
          go_roundw
          case rel => exact ⟨k + 1, n + 1, trivial, by go_num, by go_num, by omega, by omega, HNX⟩
          case measure => simp [intOf]; omega
        · have t1 : (((b.toNat : Nat) : Int) == 10) = false := by
            rw [beq_eq_false_iff_ne]
            intro hc
            exact h10 (UInt8.toNat_inj.1 (by show b.toNat = 10; omega))
          have hnx : many ≤ ((n : Nat) : Int) → k + 1 = 0 ∨ l[k + 1 - 1]? = some 10 := fun hc => by omega
          have HB := Lib.hid hb; have HNX := Lib.hid hnx; have H10 := Lib.hid h10
          clear hb hnx h10
          go_wp2_with fail
          go_roundw
          case rel => exact ⟨k + 1, n, trivial, by go_num, rfl, by omega, by omega, HNX⟩
          case measure => simp [intOf]; omega
      · have hcond : k = l.length ∨ k = 0 ∨ l[k - 1]? = some 10 := by
          by_cases hkN : k < N
          · exact .inr (HI.out (by
              rcases Int.lt_or_le (n : Int) many with h9 | h9
              · exact absurd ⟨hkN, h9⟩ hgo
              · exact h9))
          · exact .inl (by have := HN.out; omega)
        have hkl : k ≤ l.length := by have := HN.out; omega
        have hpre := beg_pre (by have := HN.out; omega) hcond hkl
        have hs := HSL.out k hkl
        have hra := HRT.out _ HW2.out k
        have hrb := fun w' hw' => HRL.out w' hw'
        obtain ⟨K, hK⟩ : ∃ K, K = tx (l.take k) := ⟨_, rfl⟩
        obtain ⟨a, ha⟩ : ∃ a, a = runB (l.take k) := ⟨_, rfl⟩
        obtain ⟨b, hb⟩ : ∃ b, b = runB l := ⟨_, rfl⟩
        rw [← hK] at hs hra
        rw [← ha] at hra hpre
        rw [← hb] at hpre
        simp only [← hb] at hrb
        obtain ⟨A, hA⟩ : ∃ A, A = tx a := ⟨_, rfl⟩
        obtain ⟨B, hB⟩ : ∃ B, B = tx b := ⟨_, rfl⟩
        rw [← hA] at hra
        simp only [← hB] at hrb
        obtain ⟨la, hla⟩ : ∃ la, la = a.length := ⟨_, rfl⟩
        obtain ⟨lb, hlb⟩ : ∃ lb, lb = b.length := ⟨_, rfl⟩
        have hle : la ≤ lb := by rw [hla, hlb]; exact hpre.length_le
        have lenA : ∀ (ty : TypeId) (w : World), (Builtin.len_ #[9] ty #[.string A]).run Tryz.prog w = .ok (.int .i64 (la : Int)) w := fun ty w => by
          rw [run_len_string w _ _ _ Tryz.underlying9, hA, tx_size, ← hla]; rfl
        have lenB : ∀ (ty : TypeId) (w : World), (Builtin.len_ #[9] ty #[.string B]).run Tryz.prog w = .ok (.int .i64 (lb : Int)) w := fun ty w => by
          rw [run_len_string w _ _ _ Tryz.underlying9, hB, tx_size, ← hlb]; rfl
        have hcut : ∀ (w : World), (Instr.slice 9 (.string B) none (some (.int .i64 (la : Int))) none).run Tryz.prog w = .ok (.string A) w := fun w => by
          rw [run_slice_string_h w 9 B Tryz.underlying9 .i64 _ (by omega) (by rw [hB, tx_size, ← hlb]; omega), show ((la : Int)).toNat = la by omega, hB, tx_extract, hA]
          show Result.ok (Value.string (tx (b.take la))) w = _
          rw [hla, ← List.prefix_iff_eq_take.1 hpre]
        have dle : decide ((la : Int) ≤ (lb : Int)) = true := by rw [decide_eq_true_eq]; omega
        have heq : (A.toList == A.toList) = true := by simp
        by_cases hkN : k < N
        · have hnm : many ≤ (n : Int) := by
            rcases Int.lt_or_le (n : Int) many with h9 | h9
            · exact absurd ⟨hkN, h9⟩ hgo
            · exact h9
          have HCOND := Lib.hid hcond; have HPRE := Lib.hid hpre; have HRA := Lib.hid hra; have HRB := Lib.hid hrb; have HK := Lib.hid hK; have HA := Lib.hid ha; have HB := Lib.hid hb; have HA := Lib.hid hA; have HB := Lib.hid hB; have HLA := Lib.hid hla; have HLB := Lib.hid hlb; have HLE := Lib.hid hle; have HGO := Lib.hid hgo
          clear hcond hpre hra hrb hK ha hb hA hB hla hlb hle hgo
          go_wp2_with fail
          refine HRA.out.mono ?_
          rintro e w3 ⟨rfl, hb3⟩
          have hr4 := HRB.out w3 (HW2.out.below hb3)
          have HR4 := Lib.hid hr4
          clear hr4
          go_wp2_with fail
          refine HR4.out.mono ?_
          rintro e w4 ⟨rfl, hb4⟩
          go_wp2_with fail
          go_ret
          exact ⟨rfl, (hb2.trans (hb3.mono hb2.size)).trans (hb4.mono (Nat.le_trans hb2.size hb3.size))⟩
        · have hkk : k = N := by omega
          subst hkk
          have HCOND := Lib.hid hcond; have HPRE := Lib.hid hpre; have HRA := Lib.hid hra; have HRB := Lib.hid hrb; have HK := Lib.hid hK; have HA := Lib.hid ha; have HB := Lib.hid hb; have HA := Lib.hid hA; have HB := Lib.hid hB; have HLA := Lib.hid hla; have HLB := Lib.hid hlb; have HLE := Lib.hid hle; have HGO := Lib.hid hgo
          clear hcond hpre hra hrb hK ha hb hA hB hla hlb hle hgo
          go_wp2_with fail
          refine HRA.out.mono ?_
          rintro e w3 ⟨rfl, hb3⟩
          have hr4 := HRB.out w3 (HW2.out.below hb3)
          have HR4 := Lib.hid hr4
          clear hr4
          go_wp2_with fail
          refine HR4.out.mono ?_
          rintro e w4 ⟨rfl, hb4⟩
          go_wp2_with fail
          go_ret
          exact ⟨rfl, (hb2.trans (hb3.mono hb2.size)).trans (hb4.mono (Nat.le_trans hb2.size hb3.size))⟩
end Go.Proofs.YtdfjbnfdknpahaaGreatDoor
/- Closed facts on the program as a whole, each asked once for all statements of the seat. -/
namespace Go.Proofs.YtdfjbnfdknpahaaGreatDoor.facts
set_option linter.unusedVariables false
set_option linter.unusedSimpArgs false
open Go.ChangeShapes Go.WideShapes Go.ChangeAt
theorem words_step (w r : List Char) (h : w.all (fun c => c != Char.ofNat 32) = true) : wordsSigns (w ++ Char.ofNat 32 :: r) = w :: wordsSigns r := by
  induction w with
  | nil => rfl
  | cons c w ih =>
    simp only [List.all_cons, Bool.and_eq_true, bne_iff_ne, ne_eq] at h
    rw [List.cons_append]
    have e : wordsSigns (c :: (w ++ Char.ofNat 32 :: r)) = match wordsSigns (w ++ Char.ofNat 32 :: r) with | x :: xs => (c :: x) :: xs | [] => [[c]] := by
      conv => lhs; unfold wordsSigns
      split
      · rename_i h1; cases h1
      · rename_i h1; injection h1 with h2 _; exact absurd h2 h.1
      · rename_i h1; injection h1 with h2 h3; subst h2 h3; rfl
    rw [e, ih (by simpa using h.2)]
theorem make_of (P : Program) (c : List Char) (rest : List (List Char)) (h : behindMainWord (wordsSigns P.initOrder.toList) = c :: rest) : P.make =
  if c == "gc".toList || c == "spec".toList then some .whole else if c == "cut".toList || (c == "finals".toList && rest.head? == some "cut".toList) then some .cut else if c == "carried".toList then some .carried else if P.headLifts.isEmpty then none else some (.lifted P.headLifts) := by
  unfold Program.make
  rw [h]
theorem mayEnter_of (P : Program) (c : List Char) (rest : List (List Char)) (h : behindMainWord (wordsSigns P.initOrder.toList) = c :: rest) : P.mayEnter = (
    ((c == "gc".toList || c == "spec".toList) && (rest.isEmpty || rest.head? == some "stop".toList)) ||
    (c == "carried".toList && rest.take 2 == ["gc".toList, "cut".toList] && !P.laysLater && !P.bearsReflect) ||
    ((stripLifts liftWords (c :: rest)).2.head? == some "cut".toList &&
      ((stripLifts liftWords (c :: rest)).1.contains "finals" || !P.laysLater) && ((stripLifts liftWords (c :: rest)).1.contains "reflectrows" || !P.bearsReflect) &&
      ((stripLifts liftWords (c :: rest)).1.contains "reflectrows" || !(stripLifts liftWords (c :: rest)).1.contains "leanrows") &&
      P.doorFits (stripLifts liftWords (c :: rest)).1)) := by
  unfold Program.mayEnter
  rw [h]
def hw0 : List Char := [Char.ofNat 104, Char.ofNat 97, Char.ofNat 114, Char.ofNat 110, Char.ofNat 101, Char.ofNat 115, Char.ofNat 115]
def hw1 : List Char := [Char.ofNat 49, Char.ofNat 51, Char.ofNat 51, Char.ofNat 57, Char.ofNat 54, Char.ofNat 101, Char.ofNat 99, Char.ofNat 100, Char.ofNat 97, Char.ofNat 53, Char.ofNat 98, Char.ofNat 100, Char.ofNat 48, Char.ofNat 51, Char.ofNat 48, Char.ofNat 102, Char.ofNat 51, Char.ofNat 97, Char.ofNat 102, Char.ofNat 99, Char.ofNat 53, Char.ofNat 101, Char.ofNat 52, Char.ofNat 100, Char.ofNat 56, Char.ofNat 99, Char.ofNat 49, Char.ofNat 54, Char.ofNat 102, Char.ofNat 56, Char.ofNat 49, Char.ofNat 53, Char.ofNat 52, Char.ofNat 101, Char.ofNat 51, Char.ofNat 50, Char.ofNat 51, Char.ofNat 102, Char.ofNat 51, Char.ofNat 102, Char.ofNat 97, Char.ofNat 101, Char.ofNat 99, Char.ofNat 57, Char.ofNat 100, Char.ofNat 49, Char.ofNat 51, Char.ofNat 57, Char.ofNat 100, Char.ofNat 50, Char.ofNat 97, Char.ofNat 98, Char.ofNat 56, Char.ofNat 56, Char.ofNat 49, Char.ofNat 101, Char.ofNat 54, Char.ofNat 55, Char.ofNat 52, Char.ofNat 50, Char.ofNat 101, Char.ofNat 48, Char.ofNat 101, Char.ofNat 99]
def hw2 : List Char := [Char.ofNat 99, Char.ofNat 117, Char.ofNat 116]
def hrest : List Char := [Char.ofNat 97, Char.ofNat 116, Char.ofNat 32, Char.ofNat 109, Char.ofNat 111, Char.ofNat 111, Char.ofNat 116, Char.ofNat 98, Char.ofNat 101, Char.ofNat 108, Char.ofNat 108, Char.ofNat 47, Char.ofNat 109, Char.ofNat 111, Char.ofNat 111, Char.ofNat 116, Char.ofNat 108, Char.ofNat 97, Char.ofNat 119, Char.ofNat 51, Char.ofNat 46, Char.ofNat 82, Char.ofNat 117, Char.ofNat 110, Char.ofNat 65, Char.ofNat 110, Char.ofNat 115, Char.ofNat 119, Char.ofNat 101, Char.ofNat 114, Char.ofNat 115, Char.ofNat 32, Char.ofNat 109, Char.ofNat 111, Char.ofNat 111, Char.ofNat 116, Char.ofNat 98, Char.ofNat 101, Char.ofNat 108, Char.ofNat 108, Char.ofNat 47, Char.ofNat 109, Char.ofNat 111, Char.ofNat 111, Char.ofNat 116, Char.ofNat 108, Char.ofNat 97, Char.ofNat 119, Char.ofNat 51, Char.ofNat 46, Char.ofNat 82, Char.ofNat 117, Char.ofNat 110, Char.ofNat 66, Char.ofNat 101, Char.ofNat 103, Char.ofNat 105, Char.ofNat 110, Char.ofNat 115, Char.ofNat 32, Char.ofNat 109, Char.ofNat 111, Char.ofNat 111, Char.ofNat 116, Char.ofNat 98, Char.ofNat 101, Char.ofNat 108, Char.ofNat 108, Char.ofNat 47, Char.ofNat 109, Char.ofNat 111, Char.ofNat 111, Char.ofNat 116, Char.ofNat 108, Char.ofNat 97, Char.ofNat 119, Char.ofNat 51, Char.ofNat 46, Char.ofNat 82, Char.ofNat 117, Char.ofNat 110, Char.ofNat 67, Char.ofNat 97, Char.ofNat 117, Char.ofNat 115, Char.ofNat 97, Char.ofNat 108]
set_option maxRecDepth 100000 in
theorem init_lit : Tryz.prog.initOrder = String.ofList [Char.ofNat 104, Char.ofNat 97, Char.ofNat 114, Char.ofNat 110, Char.ofNat 101, Char.ofNat 115, Char.ofNat 115, Char.ofNat 32, Char.ofNat 49, Char.ofNat 51, Char.ofNat 51, Char.ofNat 57, Char.ofNat 54, Char.ofNat 101, Char.ofNat 99, Char.ofNat 100, Char.ofNat 97, Char.ofNat 53, Char.ofNat 98, Char.ofNat 100, Char.ofNat 48, Char.ofNat 51, Char.ofNat 48, Char.ofNat 102, Char.ofNat 51, Char.ofNat 97, Char.ofNat 102, Char.ofNat 99, Char.ofNat 53, Char.ofNat 101, Char.ofNat 52, Char.ofNat 100, Char.ofNat 56, Char.ofNat 99, Char.ofNat 49, Char.ofNat 54, Char.ofNat 102, Char.ofNat 56, Char.ofNat 49, Char.ofNat 53, Char.ofNat 52, Char.ofNat 101, Char.ofNat 51, Char.ofNat 50, Char.ofNat 51, Char.ofNat 102, Char.ofNat 51, Char.ofNat 102, Char.ofNat 97, Char.ofNat 101, Char.ofNat 99, Char.ofNat 57, Char.ofNat 100, Char.ofNat 49, Char.ofNat 51, Char.ofNat 57, Char.ofNat 100, Char.ofNat 50, Char.ofNat 97, Char.ofNat 98, Char.ofNat 56, Char.ofNat 56, Char.ofNat 49, Char.ofNat 101, Char.ofNat 54, Char.ofNat 55, Char.ofNat 52, Char.ofNat 50, Char.ofNat 101, Char.ofNat 48, Char.ofNat 101, Char.ofNat 99, Char.ofNat 32, Char.ofNat 99, Char.ofNat 117, Char.ofNat 116, Char.ofNat 32, Char.ofNat 97, Char.ofNat 116, Char.ofNat 32, Char.ofNat 109, Char.ofNat 111, Char.ofNat 111, Char.ofNat 116, Char.ofNat 98, Char.ofNat 101, Char.ofNat 108, Char.ofNat 108, Char.ofNat 47, Char.ofNat 109, Char.ofNat 111, Char.ofNat 111, Char.ofNat 116, Char.ofNat 108, Char.ofNat 97, Char.ofNat 119, Char.ofNat 51, Char.ofNat 46, Char.ofNat 82, Char.ofNat 117, Char.ofNat 110, Char.ofNat 65, Char.ofNat 110, Char.ofNat 115, Char.ofNat 119, Char.ofNat 101, Char.ofNat 114, Char.ofNat 115, Char.ofNat 32, Char.ofNat 109, Char.ofNat 111, Char.ofNat 111, Char.ofNat 116, Char.ofNat 98, Char.ofNat 101, Char.ofNat 108, Char.ofNat 108, Char.ofNat 47, Char.ofNat 109, Char.ofNat 111, Char.ofNat 111, Char.ofNat 116, Char.ofNat 108, Char.ofNat 97, Char.ofNat 119, Char.ofNat 51, Char.ofNat 46, Char.ofNat 82, Char.ofNat 117, Char.ofNat 110, Char.ofNat 66, Char.ofNat 101, Char.ofNat 103, Char.ofNat 105, Char.ofNat 110, Char.ofNat 115, Char.ofNat 32, Char.ofNat 109, Char.ofNat 111, Char.ofNat 111, Char.ofNat 116, Char.ofNat 98, Char.ofNat 101, Char.ofNat 108, Char.ofNat 108, Char.ofNat 47, Char.ofNat 109, Char.ofNat 111, Char.ofNat 111, Char.ofNat 116, Char.ofNat 108, Char.ofNat 97, Char.ofNat 119, Char.ofNat 51, Char.ofNat 46, Char.ofNat 82, Char.ofNat 117, Char.ofNat 110, Char.ofNat 67, Char.ofNat 97, Char.ofNat 117, Char.ofNat 115, Char.ofNat 97, Char.ofNat 108] := by kernel_rfl
set_option maxRecDepth 100000 in
theorem init_chars : Tryz.prog.initOrder.toList = [Char.ofNat 104, Char.ofNat 97, Char.ofNat 114, Char.ofNat 110, Char.ofNat 101, Char.ofNat 115, Char.ofNat 115, Char.ofNat 32, Char.ofNat 49, Char.ofNat 51, Char.ofNat 51, Char.ofNat 57, Char.ofNat 54, Char.ofNat 101, Char.ofNat 99, Char.ofNat 100, Char.ofNat 97, Char.ofNat 53, Char.ofNat 98, Char.ofNat 100, Char.ofNat 48, Char.ofNat 51, Char.ofNat 48, Char.ofNat 102, Char.ofNat 51, Char.ofNat 97, Char.ofNat 102, Char.ofNat 99, Char.ofNat 53, Char.ofNat 101, Char.ofNat 52, Char.ofNat 100, Char.ofNat 56, Char.ofNat 99, Char.ofNat 49, Char.ofNat 54, Char.ofNat 102, Char.ofNat 56, Char.ofNat 49, Char.ofNat 53, Char.ofNat 52, Char.ofNat 101, Char.ofNat 51, Char.ofNat 50, Char.ofNat 51, Char.ofNat 102, Char.ofNat 51, Char.ofNat 102, Char.ofNat 97, Char.ofNat 101, Char.ofNat 99, Char.ofNat 57, Char.ofNat 100, Char.ofNat 49, Char.ofNat 51, Char.ofNat 57, Char.ofNat 100, Char.ofNat 50, Char.ofNat 97, Char.ofNat 98, Char.ofNat 56, Char.ofNat 56, Char.ofNat 49, Char.ofNat 101, Char.ofNat 54, Char.ofNat 55, Char.ofNat 52, Char.ofNat 50, Char.ofNat 101, Char.ofNat 48, Char.ofNat 101, Char.ofNat 99, Char.ofNat 32, Char.ofNat 99, Char.ofNat 117, Char.ofNat 116, Char.ofNat 32, Char.ofNat 97, Char.ofNat 116, Char.ofNat 32, Char.ofNat 109, Char.ofNat 111, Char.ofNat 111, Char.ofNat 116, Char.ofNat 98, Char.ofNat 101, Char.ofNat 108, Char.ofNat 108, Char.ofNat 47, Char.ofNat 109, Char.ofNat 111, Char.ofNat 111, Char.ofNat 116, Char.ofNat 108, Char.ofNat 97, Char.ofNat 119, Char.ofNat 51, Char.ofNat 46, Char.ofNat 82, Char.ofNat 117, Char.ofNat 110, Char.ofNat 65, Char.ofNat 110, Char.ofNat 115, Char.ofNat 119, Char.ofNat 101, Char.ofNat 114, Char.ofNat 115, Char.ofNat 32, Char.ofNat 109, Char.ofNat 111, Char.ofNat 111, Char.ofNat 116, Char.ofNat 98, Char.ofNat 101, Char.ofNat 108, Char.ofNat 108, Char.ofNat 47, Char.ofNat 109, Char.ofNat 111, Char.ofNat 111, Char.ofNat 116, Char.ofNat 108, Char.ofNat 97, Char.ofNat 119, Char.ofNat 51, Char.ofNat 46, Char.ofNat 82, Char.ofNat 117, Char.ofNat 110, Char.ofNat 66, Char.ofNat 101, Char.ofNat 103, Char.ofNat 105, Char.ofNat 110, Char.ofNat 115, Char.ofNat 32, Char.ofNat 109, Char.ofNat 111, Char.ofNat 111, Char.ofNat 116, Char.ofNat 98, Char.ofNat 101, Char.ofNat 108, Char.ofNat 108, Char.ofNat 47, Char.ofNat 109, Char.ofNat 111, Char.ofNat 111, Char.ofNat 116, Char.ofNat 108, Char.ofNat 97, Char.ofNat 119, Char.ofNat 51, Char.ofNat 46, Char.ofNat 82, Char.ofNat 117, Char.ofNat 110, Char.ofNat 67, Char.ofNat 97, Char.ofNat 117, Char.ofNat 115, Char.ofNat 97, Char.ofNat 108] := by rw [init_lit, String.toList_ofList]
set_option maxRecDepth 100000 in
theorem init_split : [Char.ofNat 104, Char.ofNat 97, Char.ofNat 114, Char.ofNat 110, Char.ofNat 101, Char.ofNat 115, Char.ofNat 115, Char.ofNat 32, Char.ofNat 49, Char.ofNat 51, Char.ofNat 51, Char.ofNat 57, Char.ofNat 54, Char.ofNat 101, Char.ofNat 99, Char.ofNat 100, Char.ofNat 97, Char.ofNat 53, Char.ofNat 98, Char.ofNat 100, Char.ofNat 48, Char.ofNat 51, Char.ofNat 48, Char.ofNat 102, Char.ofNat 51, Char.ofNat 97, Char.ofNat 102, Char.ofNat 99, Char.ofNat 53, Char.ofNat 101, Char.ofNat 52, Char.ofNat 100, Char.ofNat 56, Char.ofNat 99, Char.ofNat 49, Char.ofNat 54, Char.ofNat 102, Char.ofNat 56, Char.ofNat 49, Char.ofNat 53, Char.ofNat 52, Char.ofNat 101, Char.ofNat 51, Char.ofNat 50, Char.ofNat 51, Char.ofNat 102, Char.ofNat 51, Char.ofNat 102, Char.ofNat 97, Char.ofNat 101, Char.ofNat 99, Char.ofNat 57, Char.ofNat 100, Char.ofNat 49, Char.ofNat 51, Char.ofNat 57, Char.ofNat 100, Char.ofNat 50, Char.ofNat 97, Char.ofNat 98, Char.ofNat 56, Char.ofNat 56, Char.ofNat 49, Char.ofNat 101, Char.ofNat 54, Char.ofNat 55, Char.ofNat 52, Char.ofNat 50, Char.ofNat 101, Char.ofNat 48, Char.ofNat 101, Char.ofNat 99, Char.ofNat 32, Char.ofNat 99, Char.ofNat 117, Char.ofNat 116, Char.ofNat 32, Char.ofNat 97, Char.ofNat 116, Char.ofNat 32, Char.ofNat 109, Char.ofNat 111, Char.ofNat 111, Char.ofNat 116, Char.ofNat 98, Char.ofNat 101, Char.ofNat 108, Char.ofNat 108, Char.ofNat 47, Char.ofNat 109, Char.ofNat 111, Char.ofNat 111, Char.ofNat 116, Char.ofNat 108, Char.ofNat 97, Char.ofNat 119, Char.ofNat 51, Char.ofNat 46, Char.ofNat 82, Char.ofNat 117, Char.ofNat 110, Char.ofNat 65, Char.ofNat 110, Char.ofNat 115, Char.ofNat 119, Char.ofNat 101, Char.ofNat 114, Char.ofNat 115, Char.ofNat 32, Char.ofNat 109, Char.ofNat 111, Char.ofNat 111, Char.ofNat 116, Char.ofNat 98, Char.ofNat 101, Char.ofNat 108, Char.ofNat 108, Char.ofNat 47, Char.ofNat 109, Char.ofNat 111, Char.ofNat 111, Char.ofNat 116, Char.ofNat 108, Char.ofNat 97, Char.ofNat 119, Char.ofNat 51, Char.ofNat 46, Char.ofNat 82, Char.ofNat 117, Char.ofNat 110, Char.ofNat 66, Char.ofNat 101, Char.ofNat 103, Char.ofNat 105, Char.ofNat 110, Char.ofNat 115, Char.ofNat 32, Char.ofNat 109, Char.ofNat 111, Char.ofNat 111, Char.ofNat 116, Char.ofNat 98, Char.ofNat 101, Char.ofNat 108, Char.ofNat 108, Char.ofNat 47, Char.ofNat 109, Char.ofNat 111, Char.ofNat 111, Char.ofNat 116, Char.ofNat 108, Char.ofNat 97, Char.ofNat 119, Char.ofNat 51, Char.ofNat 46, Char.ofNat 82, Char.ofNat 117, Char.ofNat 110, Char.ofNat 67, Char.ofNat 97, Char.ofNat 117, Char.ofNat 115, Char.ofNat 97, Char.ofNat 108] = hw0 ++ Char.ofNat 32 :: (hw1 ++ Char.ofNat 32 :: (hw2 ++ Char.ofNat 32 :: hrest)) := by kernel_rfl
theorem init_words : wordsSigns Tryz.prog.initOrder.toList = hw0 :: hw1 :: hw2 :: wordsSigns hrest := by
  rw [init_chars.trans init_split]
  rw [words_step hw0 _ (by kernel_rfl)]
  rw [words_step hw1 _ (by kernel_rfl)]
  rw [words_step hw2 _ (by kernel_rfl)]
theorem behind (rs : List (List Char)) : behindMainWord (hw0 :: hw1 :: hw2 :: rs) = hw2 :: rs := by kernel_rfl
theorem strip (rs : List (List Char)) : stripLifts liftWords (hw2 :: rs) = ([], hw2 :: rs) := by kernel_rfl
theorem laysLater : Tryz.prog.laysLater = false := by kernel_rfl
theorem bearsReflect : Tryz.prog.bearsReflect = false := by kernel_rfl
theorem doorFits : Tryz.prog.doorFits [] = true := by kernel_rfl
theorem headLifts : Tryz.prog.headLifts = [] := by
  unfold Program.headLifts; rw [init_words, behind, strip]; generalize wordsSigns hrest = rs; kernel_rfl
theorem mayEnter : Tryz.prog.mayEnter = true := by
  rw [mayEnter_of Tryz.prog _ _ (by rw [init_words, behind]), strip, laysLater, bearsReflect, doorFits]; generalize wordsSigns hrest = rs; kernel_rfl
theorem lifts_eq : Tryz.prog.liftsFinal = false := by
  unfold Program.liftsFinal; rw [init_words, behind, headLifts]; generalize wordsSigns hrest = rs; kernel_rfl
theorem make_eq : (Tryz.prog.make == some .cut) = true := by
  rw [make_of Tryz.prog _ _ (by rw [init_words, behind]), headLifts]; generalize wordsSigns hrest = rs; kernel_rfl
theorem laidOut : laidOutB Tryz.prog = true := by kernel_rfl
theorem mapsRowed : mapsRowed Tryz.prog = true := by kernel_rfl
theorem stops : (Tryz.prog.stops == []) = true := by kernel_rfl
theorem stopKnobs : (Tryz.prog.stopKnobs == []) = true := by kernel_rfl
theorem stopsHeard : Tryz.prog.stopsHeard = true := by kernel_rfl
theorem own : ownKnob Tryz.prog.godebug = none := by kernel_rfl
theorem and_mk {a b : Bool} (ha : a = true) (hb : b = true) : (a && b) = true := by rw [ha, hb]; rfl
end Go.Proofs.YtdfjbnfdknpahaaGreatDoor.facts
/- The package-level variable errors.errorType as the rows list it: what a walk has of it; a world that meets it. (After the guide's Toyas example.) -/
namespace Go.Proofs.YtdfjbnfdknpahaaGreatDoor
set_option linter.unusedVariables false
set_option linter.unusedSimpArgs false
open Go.ChangeShapes Go.WideShapes Go.RowKit
theorem errt : Tryz.prog.globalNamed "errors.errorType" = some 1 := by kernel_rfl
theorem rtt : (Tryz.prog.cutTypes.find? (·.1 == "internal/reflectlite.rtype")).map (·.2) = some 175 := by kernel_rfl
theorem oneRow : ((List.range 290).filter fun t => Tryz.prog.rowNamed t [101, 114, 114, 111, 114]) = [34] := by kernel_rfl
theorem typesSize : Tryz.prog.types.size = 290 := by kernel_rfl
def theLaid : List (String × DataW Unit) := [("errors.errorType", Rows.laid_errors_errorType)]
theorem handle_of_laid {W : World} (h : laidMetH Tryz.prog theLaid W) : As.Handle W := by
  have h' : laidMet Tryz.prog [] W ∧ handlesMet Tryz.prog theLaid W := h
  obtain ⟨name, u, ty, e1, e2, e3, e4, e5⟩ := h'.2 _ (List.mem_singleton.2 rfl)
  have en : name = [101, 114, 114, 111, 114] := (Option.some.inj e1).symm
  subst en
  obtain rfl := Option.some.inj (rtt.symm.trans e2)
  have hm : ty ∈ (List.range 290).filter fun t => Tryz.prog.rowNamed t [101, 114, 114, 111, 114] := List.mem_filter.2 ⟨List.mem_range.2 (by rw [← typesSize]; exact e3), e4⟩
  rw [oneRow] at hm
  obtain rfl := List.mem_singleton.1 hm
  have hh : typeHandle Tryz.prog 34 = .pointer (some ⟨10, 34, none⟩) := by kernel_rfl
  rw [hh] at e5
  unfold As.Handle
  simpa using World.var?_cell errt e5 0
def laidWorld (P : Program) (os : Os) : World :=
  { World.holding P os ⟨#[], #[], []⟩ with heap := (World.holding P os ⟨#[], #[], []⟩).heap.setIfInBounds 1 (.cells #[.iface 175 (.agg #[.pointer (some ⟨10, 34, none⟩)])] 145 (0, 0)) }
theorem laidWorld_met (os : Os) (args : Array Value) : laidMetH Tryz.prog theLaid ((laidWorld Tryz.prog os).forCall (fun _ _ => 0) ⟨#[], args, []⟩).memory :=
  laidMetH_of_parts (laidMet_nil _ _) (by kernel_rfl)
end Go.Proofs.YtdfjbnfdknpahaaGreatDoor
/- The package-level variables that the rows of Run list: what a walk has of them; a world that meets them. -/
namespace Go.Proofs.YtdfjbnfdknpahaaGreatDoor
set_option linter.unusedVariables false
set_option linter.unusedSimpArgs false
open Go.ChangeShapes Go.WideShapes Go.RowKit
def theDataR : List (String × DataW Unit) := [("math/bits.deBruijn32tab", Rows.laid_math_bits_deBruijn32tab), ("math/bits.deBruijn64tab", Rows.laid_math_bits_deBruijn64tab), ("internal/strconv.uint64pow10", Rows.laid_internal_strconv_uint64pow10), ("unicode/utf8.acceptRanges", Rows.laid_unicode_utf8_acceptRanges), ("strconv.ErrRange", Rows.laid_strconv_ErrRange), ("strconv.ErrSyntax", Rows.laid_strconv_ErrSyntax), ("mootbell/run.unread", Rows.laid_mootbell_run_unread), ("unicode/utf8.first", Rows.laid_unicode_utf8_first)]
def theLaidR : List (String × DataW Unit) := [("math/bits.deBruijn32tab", Rows.laid_math_bits_deBruijn32tab), ("math/bits.deBruijn64tab", Rows.laid_math_bits_deBruijn64tab), ("internal/strconv.uint64pow10", Rows.laid_internal_strconv_uint64pow10), ("unicode/utf8.acceptRanges", Rows.laid_unicode_utf8_acceptRanges), ("errors.errorType", Rows.laid_errors_errorType), ("strconv.ErrRange", Rows.laid_strconv_ErrRange), ("strconv.ErrSyntax", Rows.laid_strconv_ErrSyntax), ("mootbell/run.unread", Rows.laid_mootbell_run_unread), ("unicode/utf8.first", Rows.laid_unicode_utf8_first)]
set_option maxRecDepth 1000000 in
set_option maxHeartbeats 2000000 in
theorem parts_of_laidR {W : World} (h : laidMetH Tryz.prog theLaidR W) : laidMet Tryz.prog theDataR W ∧ handlesMet Tryz.prog theLaid W := by
  have e1 : theLaidR.filter (fun x => x.2.handleName?.isSome) = theLaid := by kernel_rfl
  have e2 : theLaidR.filter (fun x => x.2.handleName?.isNone) = theDataR := by kernel_rfl
  unfold laidMetH at h
  rw [e1, e2] at h
  exact h
theorem rowNm {P : Program} {nm : String} {k : Nat} (hall : (List.range P.types.size).all (fun u => P.typeName? 3 u != some nm || u == k) = true) (hstar : ∀ s : String, "*" ++ s ≠ nm) (u : TypeId) (hu : P.typeName? 3 u = some nm) : u = k := by
  by_cases hlt : u < P.types.size
  · have := List.all_eq_true.1 hall u (List.mem_range.2 hlt)
    simpa [hu] using this
  · exfalso
    unfold Program.typeName? at hu
    cases hi : P.info? u with
    | none => simp [hi] at hu
    | some i =>
      have hb := Tables.info?_beyond hlt hi
      simp only [hi] at hu
      cases hd : i.desc <;> simp only [hd, TypeDesc.tableOnly] at hu hb <;> try cases hb
      all_goals try cases hu
      rename_i e
      simp only [Option.map_eq_some_iff] at hu
      obtain ⟨n', _, hs⟩ := hu
      exact hstar n' hs
theorem star_no (s : String) : "*" ++ s ≠ "mootbell/api.Errno" := fun h => by
  have h1 := congrArg (fun x : String => x.toList.head?) h
  simp only [String.toList_append] at h1
  revert h1
  show ¬ (("*".toList ++ s.toList).head? = "mootbell/api.Errno".toList.head?)
  rw [show "*".toList = "*".toList.head! :: [] from rfl, List.cons_append, List.head?_cons]
  decide
theorem starErr : "*" ++ "errors.errorString" = "*errors.errorString" := by decide
theorem rowErrStr (u : TypeId) (h : Tryz.prog.typeName? 3 u = some "*errors.errorString") : u = 257 :=
  typeName_ptr_named (nm := "errors.errorString") (by rw [starErr]; kernel_rfl) (by kernel_rfl) (by decide) u (by rw [starErr]; exact h)
theorem rowErrno (u : TypeId) (h : Tryz.prog.typeName? 3 u = some "mootbell/api.Errno") : u = 90 := rowNm (by kernel_rfl) star_no u h
set_option maxRecDepth 1000000 in
set_option maxHeartbeats 2000000 in
theorem unread_of_laid {W : World} {r : List (String × DataW Unit)} (h : laidMet Tryz.prog (("mootbell/run.unread", Rows.laid_mootbell_run_unread) :: r) W) : W.cell? ⟨0, 0, none⟩ = some (.iface 90 (.int .i64 2)) := by
  obtain ⟨ps, ⟨g0, t0, cs0, f0, p0, q0, hg0, ht0, hv0, hd0, _, e0⟩, _, hrows⟩ := h
  obtain rfl := Option.some.inj ((show Tryz.prog.globalNamed "mootbell/run.unread" = some 0 by kernel_rfl).symm.trans hg0)
  obtain rfl := Option.some.inj ((show (Tryz.prog.globals[0]?).map (·.type) = some 104 by kernel_rfl).symm.trans ht0)
  subst e0
  obtain ⟨l0⟩ := cs0
  obtain ⟨y0, n, hx, hl, hy⟩ := trod_struct1 Tryz.underlying104 hd0
  have hc1 : Tryz.prog.cellsOf 104 = 1 := by kernel_rfl
  have hc2 : Tryz.prog.cellsOf 34 = 1 := by kernel_rfl
  rw [hc1] at hl
  match l0, hl with
  | [c], _ =>
    have hy2 : DataW.trod (fun _ => ()) Tryz.prog W 0 (fun _ => true) false n 34 [c] = some y0 := by
      have h1 := hy
      simp only [hc2] at h1
      exact h1
    have hyy : y0 = (.iface "mootbell/api.Errno" (.lit (.int .i64 2)), y0.2) := by
      have h1 := congrArg Prod.fst hx
      simp only [Rows.laid_mootbell_run_unread, DataW.agg.injEq, List.cons.injEq, and_true] at h1
      rw [h1]
    rw [hyy] at hy2
    obtain ⟨f1, u, v, hcu, hnm, h1⟩ := iface_of_trod Tryz.underlying34 hy2
    obtain rfl := rowErrno u hnm
    injection hcu with hcu _
    subst hcu
    have hcell : W.cell? ⟨0, 0, none⟩ = some (.iface 90 v) := by simpa using World.var?_cell hg0 hv0 0
    have ok := (hrows 0 0 (by simp [MemPlace.row])).2 _ _ hcell
    obtain ⟨z, hz, he, _⟩ := DataW.trod_int Tryz.underlying90 h1
    have hz2 : z = 2 := by
      simp only [Prod.mk.injEq, DataW.lit.injEq, Lit.int.injEq, true_and] at he
      exact he.1.symm
    subst hz2
    have hv' : v = .int .i64 2 := by
      unfold Value.okWide at ok
      simp only [Tryz.underlying90] at ok
      unfold Cell.okWide at ok
      cases v <;> simp [Value.cells, Cell.ok, Tryz.underlying90] at ok hz
      obtain ⟨rfl, rfl⟩ := hz
      rfl
    rw [hcell, hv']
theorem sent_of_laid {W : World} {n : String} {g : Nat} {text : List UInt8} {r : List (String × DataW Unit)} (h : laidMet Tryz.prog ((n, .iface "*errors.errorString" (.ptr (.agg [.lit (.string text)]))) :: r) W)
    (hg : Tryz.prog.globalNamed n = some g) (ht : (Tryz.prog.globals[g]?).map (·.type) = some 34) : ∃ te pe, W.cell? ⟨g, 0, none⟩ = some (.iface te pe) := by
  obtain ⟨a, s, hv, _⟩ := laid_sentinel h hg ht Tryz.underlying34 rowErrStr Tryz.underlying257 Tryz.underlying259 rfl rfl Tryz.underlying9 (by kernel_rfl) (by kernel_rfl)
  exact ⟨_, _, by simpa using World.var?_cell hg hv 0⟩
theorem runW_of_laid {W : World} (h : laidMetH Tryz.prog theLaidR W) : RunW W := by
  obtain ⟨hd, hh⟩ := parts_of_laidR h
  have h2 := hd.tail.tail
  have h4 := h2.tail.tail
  have h5 := h4.tail
  have h6 := h5.tail
  exact {
    hg := handle_of_laid (show laidMetH Tryz.prog theLaid W from ⟨laidMet_nil _ _, hh⟩)
    tab := Lib.tabIs_of_head (g := 7) (k := .u64) (zs := Lib.pow10Tab) (by kernel_rfl) (by kernel_rfl) Tryz.underlying251 Tryz.underlying229 (by kernel_rfl) (by kernel_rfl) h2
    es := sent_of_laid h5 (by kernel_rfl) (by kernel_rfl)
    er := sent_of_laid h4 (by kernel_rfl) (by kernel_rfl)
    un := unread_of_laid h6 }
def tab64R : Array Value := #[.int .u64 1, .int .u64 10, .int .u64 100, .int .u64 1000, .int .u64 10000, .int .u64 100000, .int .u64 1000000, .int .u64 10000000, .int .u64 100000000, .int .u64 1000000000, .int .u64 10000000000, .int .u64 100000000000, .int .u64 1000000000000, .int .u64 10000000000000, .int .u64 100000000000000, .int .u64 1000000000000000, .int .u64 10000000000000000, .int .u64 100000000000000000, .int .u64 1000000000000000000, .int .u64 10000000000000000000]
def db32R : Array Value := ([0, 1, 28, 2, 29, 14, 24, 3, 30, 22, 20, 15, 25, 17, 4, 8, 31, 27, 13, 23, 21, 19, 16, 7, 26, 12, 18, 6, 11, 5, 10, 9].map (Value.int .u8)).toArray
def db64R : Array Value := ([0, 1, 56, 2, 57, 49, 28, 3, 61, 58, 42, 50, 38, 29, 17, 4, 62, 47, 59, 36, 45, 43, 51, 22, 53, 39, 33, 30, 24, 18, 12, 5, 63, 55, 48, 27, 60, 41, 37, 16, 46, 35, 44, 21, 52, 32, 23, 11, 54, 26, 40, 15, 34, 20, 31, 10, 25, 14, 19, 9, 13, 8, 7, 6].map (Value.int .u8)).toArray
def accR : Array Value := ([128, 191, 160, 191, 128, 159, 144, 191, 128, 143, 0, 0, 0, 0, 0, 0, 0, 0, 0, 0, 0, 0, 0, 0, 0, 0, 0, 0, 0, 0, 0, 0].map (Value.int .u8)).toArray
def firstR : Array Value := ([240, 240, 240, 240, 240, 240, 240, 240, 240, 240, 240, 240, 240, 240, 240, 240, 240, 240, 240, 240, 240, 240, 240, 240, 240, 240, 240, 240, 240, 240, 240, 240, 240, 240, 240, 240, 240, 240, 240, 240, 240, 240, 240, 240, 240, 240, 240, 240, 240, 240, 240, 240, 240, 240, 240, 240, 240, 240, 240, 240, 240, 240, 240, 240, 240, 240, 240, 240, 240, 240, 240, 240, 240, 240, 240, 240, 240, 240, 240, 240, 240, 240, 240, 240, 240, 240, 240, 240, 240, 240, 240, 240, 240, 240, 240, 240, 240, 240, 240, 240, 240, 240, 240, 240, 240, 240, 240, 240, 240, 240, 240, 240, 240, 240, 240, 240, 240, 240, 240, 240, 240, 240, 240, 240, 240, 240, 240, 240, 241, 241, 241, 241, 241, 241, 241, 241, 241, 241, 241, 241, 241, 241, 241, 241, 241, 241, 241, 241, 241, 241, 241, 241, 241, 241, 241, 241, 241, 241, 241, 241, 241, 241, 241, 241, 241, 241, 241, 241, 241, 241, 241, 241, 241, 241, 241, 241, 241, 241, 241, 241, 241, 241, 241, 241, 241, 241, 241, 241, 241, 241, 241, 241, 241, 241, 2, 2, 2, 2, 2, 2, 2, 2, 2, 2, 2, 2, 2, 2, 2, 2, 2, 2, 2, 2, 2, 2, 2, 2, 2, 2, 2, 2, 2, 2, 19, 3, 3, 3, 3, 3, 3, 3, 3, 3, 3, 3, 3, 35, 3, 3, 52, 4, 4, 4, 68, 241, 241, 241, 241, 241, 241, 241, 241, 241, 241, 241].map (Value.int .u8)).toArray
def heapR (h : Array Obj) : Array Obj := ((((((((((h).setIfInBounds 7 (.cells tab64R 251 (0, 0))).setIfInBounds 8 (.cells db32R 261 (0, 0))).setIfInBounds 9 (.cells db64R 262 (0, 0))).setIfInBounds 4 (.cells accR 241 (0, 0))).setIfInBounds 3 (.cells firstR 238 (0, 0))).setIfInBounds 0 (.cells #[.iface 90 (.int .i64 2)] 104 (0, 0))).setIfInBounds 6 (.cells #[.iface 257 (.pointer (some ⟨h.size, 0, none⟩))] 34 (0, 0))).setIfInBounds 5 (.cells #[.iface 257 (.pointer (some ⟨h.size + 1, 0, none⟩))] 34 (0, 0))).push (.cells #[.string ⟨#[118, 97, 108, 117, 101, 32, 111, 117, 116, 32, 111, 102, 32, 114, 97, 110, 103, 101]⟩] 259 (0, 0))).push (.cells #[.string ⟨#[105, 110, 118, 97, 108, 105, 100, 32, 115, 121, 110, 116, 97, 120]⟩] 259 (0, 0))
def laidWorldR (P : Program) (os : Os) : World := { laidWorld P os with heap := heapR (laidWorld P os).heap }
theorem laidWorldR_met (os : Os) (args : Array Value) : laidMetH Tryz.prog theLaidR ((laidWorldR Tryz.prog os).forCall (fun _ _ => 0) ⟨#[], args, []⟩).memory :=
  laidMetH_of_parts (laidMet_of_run' 8 (by kernel_rfl) (by kernel_rfl)) (by kernel_rfl)
end Go.Proofs.YtdfjbnfdknpahaaGreatDoor
