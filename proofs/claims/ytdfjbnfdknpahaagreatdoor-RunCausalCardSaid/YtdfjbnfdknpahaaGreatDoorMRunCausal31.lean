/- RunCausal: a session is causal. -/
import Derived.Test.YtdfjbnfdknpahaaGreatDoorMRunCausal30
import Derived.Test.YtdfjbnfdknpahaaGreatDoorRows
import Derived.ProofKit
import Derived.KernelRfl
import Derived.Test.YtdfjbnfdknpahaaGreatDoorMRunCausal5
import Derived.ChangeSame
import Derived.ChangeVars
import Derived.JoinedOf
import Derived.LaidLaws
import Derived.LaidHandle
import Derived.Stop.Joined
import Derived.Stop.LaidErr
import Derived.Lib.LaidTab
namespace Go.Proofs.YtdfjbnfdknpahaaGreatDoor
set_option linter.unusedVariables false
set_option linter.unusedSimpArgs false
open Go.RowKit
set_option maxRecDepth 100000 in
set_option maxHeartbeats 4000000 in
theorem runCausal_law (w : World) (hW : RunW w) (q : Int) (_hq : I64 q) (a : Int) (_ha : I64 a) (first : Bool) :
    Calls Tryz.prog 5 #[.int .i64 q, .int .i64 a, .bool first] w fun e w' => e = .returned (.bool true) ∧ Below w.heap.size w w' := by
  by_cases hin : 1 ≤ q ∧ q ≤ 30 ∧ 1 ≤ a ∧ a ≤ 30 ∧ q ≠ a
  rotate_left
  · have hr0 := run_any hW [115, 97, 121, 32, 48, 32, 48, 10]
    rw [show runB [115, 97, 121, 32, 48, 32, 48, 10] = [69, 114, 114, 82, 97, 110, 103, 101, 10] from (by unfold runB; rw [if_neg (by decide)]; exact sess_zero)] at hr0
    have hf1 : tx [115, 97, 121, 32, 48, 32, 48, 10] = ⟨#[115, 97, 121, 32, 48, 32, 48, 10]⟩ := rfl
    have hf2 : tx [69, 114, 114, 82, 97, 110, 103, 101, 10] = ⟨#[69, 114, 114, 82, 97, 110, 103, 101, 10]⟩ := rfl
    rw [hf1, hf2] at hr0
    have HR0 := Lib.hid hr0
    clear hr0
    have hcs : q < 1 ∨ (1 ≤ q ∧ 30 < q) ∨ (1 ≤ q ∧ q ≤ 30 ∧ a < 1) ∨ (1 ≤ q ∧ q ≤ 30 ∧ 1 ≤ a ∧ 30 < a) ∨ (1 ≤ q ∧ q ≤ 30 ∧ q = a) := by
      have h5 : q = a ∨ q ≠ a := by omega
      omega
    clear hin
    rcases hcs with h1 | ⟨h1, h2⟩ | ⟨h1, h2, h3⟩ | ⟨h1, h2, h3, h4⟩ | ⟨h1, h2, rfl⟩
    all_goals
      go_enter Tryz.func5, Tryz.ntmps5
      go_wp2_with fail
      refine HR0.out.mono ?_
      rintro e w2 ⟨rfl, hb2⟩
      go_wp2_with fail
      go_ret
      exact ⟨rfl, hb2⟩
  · obtain ⟨h1, h2, h3, h4, hne⟩ := hin
    obtain ⟨m, hm⟩ : ∃ m : Nat, q = (m : Int) := ⟨q.toNat, by omega⟩
    obtain ⟨n, hn⟩ : ∃ n : Nat, a = (n : Int) := ⟨a.toNat, by omega⟩
    subst hm
    subst hn
    have hpt := cau_parts (cau_all (q := m) (a := n) (by omega) (by omega) (by omega) first)
    have hsh := cau_short (q := m) (a := n) (by omega) (by omega) first
    have hd1 := fun w => digits_any m (by omega) w
    have hd2 := fun w => digits_any n (by omega) w
    have z1 := (dec_len m).2
    have z2 := (dec_len n).2
    obtain ⟨X, hX⟩ : ∃ X, X = tx (Lib.decDigits m) := ⟨_, rfl⟩
    obtain ⟨Y, hY⟩ : ∃ Y, Y = tx (Lib.decDigits n) := ⟨_, rfl⟩
    have sX : X.size ≤ 40 := by rw [hX, tx_size]; omega
    have sY : Y.size ≤ 40 := by rw [hY, tx_size]; omega
    simp only [← hX] at hd1
    simp only [← hY] at hd2
    -- the text
    obtain ⟨S1, e1, q1, a1⟩ := add_let ⟨#[115, 97, 121, 32, 48, 32]⟩ X (by decide) (by omega)
    obtain ⟨S2, e2, q2, a2⟩ := add_let S1 ⟨#[10, 103, 105, 118, 101, 32, 48, 10, 115, 97, 121, 32, 49, 32]⟩ (by rw [q1]; show 6 + X.size ≤ _; omega) (by decide)
    have r1 : S1.size ≤ 50 := by rw [q1]; show 6 + X.size ≤ _; omega
    have r2 : S2.size ≤ 70 := by rw [q2]; show S1.size + 14 ≤ _; omega
    obtain ⟨S3, e3, q3, a3⟩ := add_let S2 Y (by omega) (by omega)
    have r3 : S3.size ≤ 110 := by rw [q3]; omega
    obtain ⟨S4, e4, q4, a4⟩ := add_let S3 ⟨#[10]⟩ (by omega) (by decide)
    have r4 : S4.size ≤ 111 := by rw [q4]; show S3.size + 1 ≤ _; omega
    obtain ⟨M, hM⟩ : ∃ M : ByteArray, M = if first = true then ⟨#[103, 105, 118, 101, 32, 50, 10, 103, 105, 118, 101, 32, 48, 10]⟩ else ⟨#[103, 105, 118, 101, 32, 48, 10, 103, 105, 118, 101, 32, 49, 10]⟩ := ⟨_, rfl⟩
    have sM : M.size = 14 := by rw [hM]; cases first <;> rfl
    obtain ⟨S5, e5, q5, a5⟩ := add_let S4 M (by omega) (by omega)
    have r5 : S5.size ≤ 125 := by rw [q5]; omega
    obtain ⟨S6, e6, q6, a6⟩ := add_let S5 ⟨#[104, 101, 97, 114, 100, 32, 50, 10, 102, 97, 99, 101, 115, 10]⟩ (by omega) (by decide)
    have hS6 : tx (cauT m n first) = S6 := by
      rw [e6, e5, e4, e3, e2, e1, hX, hY, hM]
      unfold cauT
      cases first <;> (simp only [← tx_add]; rfl)
    have hrun := run_any hW (cauT m n first)
    rw [hS6, show runB (cauT m n first) = sessB (cauT m n first) from (by unfold runB; rw [if_neg (by omega)])] at hrun
    have hln5 : (sessB (cauT m n first)).length ≤ 100000 := by omega
    obtain ⟨l5, hl5⟩ : ∃ l5, l5 = sessB (cauT m n first) := ⟨_, rfl⟩
    have hcu := fun (w2 : World) (ho : Own w emp w2) => cutS_any l5 10 (by rw [hl5]; exact hln5) ho
    rw [← hl5] at hrun
    unfold cauL at hpt
    rw [← hl5] at hpt
    obtain ⟨_, p8, p5, p6⟩ := hpt
    obtain ⟨R5, hR5⟩ : ∃ R5, R5 = tx l5 := ⟨_, rfl⟩
    rw [← hR5] at hrun
    simp only [← hR5] at hcu
    obtain ⟨ls, hls⟩ : ∃ ls, ls = cutS 10 l5 := ⟨_, rfl⟩
    simp only [← hls] at hcu
    rw [← hls] at p8 p5 p6
    -- what is compared
    obtain ⟨G1, g1, gq1, ga1⟩ := add_let X ⟨#[32]⟩ (by omega) (by decide)
    obtain ⟨G2, g2, gq2, ga2⟩ := add_let G1 Y (by rw [gq1]; show X.size + 1 ≤ _; omega) (by omega)
    have hG : tx ((Lib.decDigits m ++ [32]) ++ Lib.decDigits n) = G2 := by
      rw [g2, g1, hX, hY]
      simp only [← tx_add]
      rfl
    have c5 : (ls.map fun l => Value.string (tx l))[5]? = some (.string G2) := by
      rw [List.getElem?_map, List.getElem?_eq_getElem (by omega)]
      rw [List.getD_eq_getElem?_getD, List.getElem?_eq_getElem (by omega)] at p5
      rw [← hG, ← p5]; rfl
    have c6 : (ls.map fun l => Value.string (tx l))[6]? = some (.string ⟨#[102, 105, 102, 111, 32, 99, 97, 117, 115, 97, 108, 32, 116, 111, 116, 97, 108]⟩) := by
      rw [List.getElem?_map, List.getElem?_eq_getElem (by omega)]
      rw [List.getD_eq_getElem?_getD, List.getElem?_eq_getElem (by omega)] at p6
      rw [show (⟨#[102, 105, 102, 111, 32, 99, 97, 117, 115, 97, 108, 32, 116, 111, 116, 97, 108]⟩ : ByteArray) = tx [102, 105, 102, 111, 32, 99, 97, 117, 115, 97, 108, 32, 116, 111, 116, 97, 108] from rfl, ← p6]; rfl
    clear e1 e2 e3 e4 e5 e6 q1 q2 q3 q4 q5 q6 r1 r2 r3 r4 r5 sX sY sM g1 g2 gq1 gq2 hG z1 z2 hS6 hsh hln5
    have hmb : (m : Int) ≤ 30 := by omega
    have hnb : (n : Int) ≤ 30 := by omega
    have hne2 : ((m : Int) == (n : Int)) = false := by rw [beq_eq_false_iff_ne]; omega
    obtain ⟨Z, hZ⟩ : ∃ Z, ((⟨#[102, 105, 102, 111, 32, 99, 97, 117, 115, 97, 108, 32, 116, 111, 116, 97, 108]⟩ : ByteArray)) = Z := ⟨_, rfl⟩
    rw [hZ] at c6
    have hz6 : (Z.toList == ([102, 105, 102, 111, 32, 99, 97, 117, 115, 97, 108, 32, 116, 111, 116, 97, 108] : List UInt8)) = true := by rw [← hZ]; decide +kernel
    have hg5 : (G2.toList == G2.toList) = true := by simp
    have HD1 := Lib.hid hd1; have HD2 := Lib.hid hd2; have HRUN := Lib.hid hrun; have HCU := Lib.hid hcu; have HX := Lib.hid hX; have HY := Lib.hid hY; have HL5 := Lib.hid hl5; have HR5 := Lib.hid hR5; have HLS := Lib.hid hls; have P5 := Lib.hid p5; have P6 := Lib.hid p6; have C5 := Lib.hid c5; have C6 := Lib.hid c6; have HNE := Lib.hid hne; have P8 := Lib.hid p8; have HZ := Lib.hid hZ
    clear hd1 hd2 hrun hcu hX hY hl5 hR5 hls p5 p6 c5 c6 hne p8 hZ
    cases first
    all_goals
      simp only [if_true, if_false, Bool.false_eq_true, reduceIte] at hM
      subst hM
      go_enter Tryz.func5, Tryz.ntmps5
      go_wp2_with fail
      refine (HD1.out _).mono ?_
      rintro e w2 ⟨rfl, rfl⟩
      go_wp2_with fail
      refine (HD2.out _).mono ?_
      rintro e w3 ⟨rfl, rfl⟩
      go_wp2_with fail
      refine HRUN.out.mono ?_
      rintro e w4 ⟨rfl, hb4⟩
      have hcut := HCU.out w4 (show Own w emp w4 from ⟨hb4, hnil, (fun _ _ h => by cases h), rfl⟩)
      have HCUT := Lib.hid hcut
      clear hcut
      go_wp2_with fail
      refine HCUT.out.mono ?_
      rintro e w5 ⟨v5, rfl, ho⟩
      obtain ⟨b, off, cap, rfl, q1, q2, q3, _, _, _, _⟩ := Own.sl_at ho (by rw [List.length_map, P8.out]; decide)
      have y5 := q3 5 _ C5.out
      have y6 := q3 6 _ C6.out
      rw [P8.out] at q1 ⊢
      have hbel := ho.below
      clear ho q3
      have HBEL := Lib.hid hbel
      clear hbel
      go_wp2_with fail
      go_ret
      exact ⟨rfl, HBEL.out⟩
end Go.Proofs.YtdfjbnfdknpahaaGreatDoor
/- Closed facts on the program as a whole, each asked once for all statements of the seat. -/
namespace Go.Proofs.YtdfjbnfdknpahaaGreatDoor.facts
set_option linter.unusedVariables false
set_option linter.unusedSimpArgs false
open Go.ChangeShapes Go.WideShapes Go.ChangeAt
theorem words_step (w r : List Char) (h : w.all (fun c => c != Char.ofNat 32) = true) : wordsSigns (w ++ Char.ofNat 32 :: r) = w :: wordsSigns r := by
  induction w with
  | nil => rfl
  | cons c w ih =>
    simp only [List.all_cons, Bool.and_eq_true, bne_iff_ne, ne_eq] at h
    rw [List.cons_append]
    have e : wordsSigns (c :: (w ++ Char.ofNat 32 :: r)) = match wordsSigns (w ++ Char.ofNat 32 :: r) with | x :: xs => (c :: x) :: xs | [] => [[c]] := by
      conv => lhs; unfold wordsSigns
      split
      · rename_i h1; cases h1
      · rename_i h1; injection h1 with h2 _; exact absurd h2 h.1
      · rename_i h1; injection h1 with h2 h3; subst h2 h3; rfl
    rw [e, ih (by simpa using h.2)]
theorem make_of (P : Program) (c : List Char) (rest : List (List Char)) (h : behindMainWord (wordsSigns P.initOrder.toList) = c :: rest) : P.make =
  if c == "gc".toList || c == "spec".toList then some .whole else if c == "cut".toList || (c == "finals".toList && rest.head? == some "cut".toList) then some .cut else if c == "carried".toList then some .carried else if P.headLifts.isEmpty then none else some (.lifted P.headLifts) := by
  unfold Program.make
  rw [h]
theorem mayEnter_of (P : Program) (c : List Char) (rest : List (List Char)) (h : behindMainWord (wordsSigns P.initOrder.toList) = c :: rest) : P.mayEnter = (
    ((c == "gc".toList || c == "spec".toList) && (rest.isEmpty || rest.head? == some "stop".toList)) ||
    (c == "carried".toList && rest.take 2 == ["gc".toList, "cut".toList] && !P.laysLater && !P.bearsReflect) ||
    ((stripLifts liftWords (c :: rest)).2.head? == some "cut".toList &&
      ((stripLifts liftWords (c :: rest)).1.contains "finals" || !P.laysLater) && ((stripLifts liftWords (c :: rest)).1.contains "reflectrows" || !P.bearsReflect) &&
      ((stripLifts liftWords (c :: rest)).1.contains "reflectrows" || !(stripLifts liftWords (c :: rest)).1.contains "leanrows") &&
      P.doorFits (stripLifts liftWords (c :: rest)).1)) := by
  unfold Program.mayEnter
  rw [h]
def hw0 : List Char := [Char.ofNat 104, Char.ofNat 97, Char.ofNat 114, Char.ofNat 110, Char.ofNat 101, Char.ofNat 115, Char.ofNat 115]
def hw1 : List Char := [Char.ofNat 49, Char.ofNat 51, Char.ofNat 51, Char.ofNat 57, Char.ofNat 54, Char.ofNat 101, Char.ofNat 99, Char.ofNat 100, Char.ofNat 97, Char.ofNat 53, Char.ofNat 98, Char.ofNat 100, Char.ofNat 48, Char.ofNat 51, Char.ofNat 48, Char.ofNat 102, Char.ofNat 51, Char.ofNat 97, Char.ofNat 102, Char.ofNat 99, Char.ofNat 53, Char.ofNat 101, Char.ofNat 52, Char.ofNat 100, Char.ofNat 56, Char.ofNat 99, Char.ofNat 49, Char.ofNat 54, Char.ofNat 102, Char.ofNat 56, Char.ofNat 49, Char.ofNat 53, Char.ofNat 52, Char.ofNat 101, Char.ofNat 51, Char.ofNat 50, Char.ofNat 51, Char.ofNat 102, Char.ofNat 51, Char.ofNat 102, Char.ofNat 97, Char.ofNat 101, Char.ofNat 99, Char.ofNat 57, Char.ofNat 100, Char.ofNat 49, Char.ofNat 51, Char.ofNat 57, Char.ofNat 100, Char.ofNat 50, Char.ofNat 97, Char.ofNat 98, Char.ofNat 56, Char.ofNat 56, Char.ofNat 49, Char.ofNat 101, Char.ofNat 54, Char.ofNat 55, Char.ofNat 52, Char.ofNat 50, Char.ofNat 101, Char.ofNat 48, Char.ofNat 101, Char.ofNat 99]
def hw2 : List Char := [Char.ofNat 99, Char.ofNat 117, Char.ofNat 116]
def hrest : List Char := [Char.ofNat 97, Char.ofNat 116, Char.ofNat 32, Char.ofNat 109, Char.ofNat 111, Char.ofNat 111, Char.ofNat 116, Char.ofNat 98, Char.ofNat 101, Char.ofNat 108, Char.ofNat 108, Char.ofNat 47, Char.ofNat 109, Char.ofNat 111, Char.ofNat 111, Char.ofNat 116, Char.ofNat 108, Char.ofNat 97, Char.ofNat 119, Char.ofNat 51, Char.ofNat 46, Char.ofNat 82, Char.ofNat 117, Char.ofNat 110, Char.ofNat 65, Char.ofNat 110, Char.ofNat 115, Char.ofNat 119, Char.ofNat 101, Char.ofNat 114, Char.ofNat 115, Char.ofNat 32, Char.ofNat 109, Char.ofNat 111, Char.ofNat 111, Char.ofNat 116, Char.ofNat 98, Char.ofNat 101, Char.ofNat 108, Char.ofNat 108, Char.ofNat 47, Char.ofNat 109, Char.ofNat 111, Char.ofNat 111, Char.ofNat 116, Char.ofNat 108, Char.ofNat 97, Char.ofNat 119, Char.ofNat 51, Char.ofNat 46, Char.ofNat 82, Char.ofNat 117, Char.ofNat 110, Char.ofNat 66, Char.ofNat 101, Char.ofNat 103, Char.ofNat 105, Char.ofNat 110, Char.ofNat 115, Char.ofNat 32, Char.ofNat 109, Char.ofNat 111, Char.ofNat 111, Char.ofNat 116, Char.ofNat 98, Char.ofNat 101, Char.ofNat 108, Char.ofNat 108, Char.ofNat 47, Char.ofNat 109, Char.ofNat 111, Char.ofNat 111, Char.ofNat 116, Char.ofNat 108, Char.ofNat 97, Char.ofNat 119, Char.ofNat 51, Char.ofNat 46, Char.ofNat 82, Char.ofNat 117, Char.ofNat 110, Char.ofNat 67, Char.ofNat 97, Char.ofNat 117, Char.ofNat 115, Char.ofNat 97, Char.ofNat 108]
set_option maxRecDepth 100000 in
theorem init_lit : Tryz.prog.initOrder = String.ofList [Char.ofNat 104, Char.ofNat 97, Char.ofNat 114, Char.ofNat 110, Char.ofNat 101, Char.ofNat 115, Char.ofNat 115, Char.ofNat 32, Char.ofNat 49, Char.ofNat 51, Char.ofNat 51, Char.ofNat 57, Char.ofNat 54, Char.ofNat 101, Char.ofNat 99, Char.ofNat 100, Char.ofNat 97, Char.ofNat 53, Char.ofNat 98, Char.ofNat 100, Char.ofNat 48, Char.ofNat 51, Char.ofNat 48, Char.ofNat 102, Char.ofNat 51, Char.ofNat 97, Char.ofNat 102, Char.ofNat 99, Char.ofNat 53, Char.ofNat 101, Char.ofNat 52, Char.ofNat 100, Char.ofNat 56, Char.ofNat 99, Char.ofNat 49, Char.ofNat 54, Char.ofNat 102, Char.ofNat 56, Char.ofNat 49, Char.ofNat 53, Char.ofNat 52, Char.ofNat 101, Char.ofNat 51, Char.ofNat 50, Char.ofNat 51, Char.ofNat 102, Char.ofNat 51, Char.ofNat 102, Char.ofNat 97, Char.ofNat 101, Char.ofNat 99, Char.ofNat 57, Char.ofNat 100, Char.ofNat 49, Char.ofNat 51, Char.ofNat 57, Char.ofNat 100, Char.ofNat 50, Char.ofNat 97, Char.ofNat 98, Char.ofNat 56, Char.ofNat 56, Char.ofNat 49, Char.ofNat 101, Char.ofNat 54, Char.ofNat 55, Char.ofNat 52, Char.ofNat 50, Char.ofNat 101, Char.ofNat 48, Char.ofNat 101, Char.ofNat 99, Char.ofNat 32, Char.ofNat 99, Char.ofNat 117, Char.ofNat 116, Char.ofNat 32, Char.ofNat 97, Char.ofNat 116, Char.ofNat 32, Char.ofNat 109, Char.ofNat 111, Char.ofNat 111, Char.ofNat 116, Char.ofNat 98, Char.ofNat 101, Char.ofNat 108, Char.ofNat 108, Char.ofNat 47, Char.ofNat 109, Char.ofNat 111, Char.ofNat 111, Char.ofNat 116, Char.ofNat 108, Char.ofNat 97, Char.ofNat 119, Char.ofNat 51, Char.ofNat 46, Char.ofNat 82, Char.ofNat 117, Char.ofNat 110, Char.ofNat 65, Char.ofNat 110, Char.ofNat 115, Char.ofNat 119, Char.ofNat 101, Char.ofNat 114, Char.ofNat 115, Char.ofNat 32, Char.ofNat 109, Char.ofNat 111, Char.ofNat 111, Char.ofNat 116, Char.ofNat 98, Char.ofNat 101, Char.ofNat 108, Char.ofNat 108, Char.ofNat 47, Char.ofNat 109, Char.ofNat 111, Char.ofNat 111, Char.ofNat 116, Char.ofNat 108, Char.ofNat 97, Char.ofNat 119, Char.ofNat 51, Char.ofNat 46, Char.ofNat 82, Char.ofNat 117, Char.ofNat 110, Char.ofNat 66, Char.ofNat 101, Char.ofNat 103, Char.ofNat 105, Char.ofNat 110, Char.ofNat 115, Char.ofNat 32, Char.ofNat 109, Char.ofNat 111, Char.ofNat 111, Char.ofNat 116, Char.ofNat 98, Char.ofNat 101, Char.ofNat 108, Char.ofNat 108, Char.ofNat 47, Char.ofNat 109, Char.ofNat 111, Char.ofNat 111, Char.ofNat 116, Char.ofNat 108, Char.ofNat 97, Char.ofNat 119, Char.ofNat 51, Char.ofNat 46, Char.ofNat 82, Char.ofNat 117, Char.ofNat 110, Char.ofNat 67, Char.ofNat 97, Char.ofNat 117, Char.ofNat 115, Char.ofNat 97, Char.ofNat 108] := by kernel_rfl
set_option maxRecDepth 100000 in
theorem init_chars : Tryz.prog.initOrder.toList = [Char.ofNat 104, Char.ofNat 97, Char.ofNat 114, Char.ofNat 110, Char.ofNat 101, Char.ofNat 115, Char.ofNat 115, Char.ofNat 32, Char.ofNat 49, Char.ofNat 51, Char.ofNat 51, Char.ofNat 57, Char.ofNat 54, Char.ofNat 101, Char.ofNat 99, Char.ofNat 100, Char.ofNat 97, Char.ofNat 53, Char.ofNat 98, Char.ofNat 100, Char.ofNat 48, Char.ofNat 51, Char.ofNat 48, Char.ofNat 102, Char.ofNat 51, Char.ofNat 97, Char.ofNat 102, Char.ofNat 99, Char.ofNat 53, Char.ofNat 101, Char.ofNat 52, Char.ofNat 100, Char.ofNat 56, Char.ofNat 99, Char.ofNat 49, Char.ofNat 54, Char.ofNat 102, Char.ofNat 56, Char.ofNat 49, Char.ofNat 53, Char.ofNat 52, Char.ofNat 101, Char.ofNat 51, Char.ofNat 50, Char.ofNat 51, Char.ofNat 102, Char.ofNat 51, Char.ofNat 102, Char.ofNat 97, Char.ofNat 101, Char.ofNat 99, Char.ofNat 57, Char.ofNat 100, Char.ofNat 49, Char.ofNat 51, Char.ofNat 57, Char.ofNat 100, Char.ofNat 50, Char.ofNat 97, Char.ofNat 98, Char.ofNat 56, Char.ofNat 56, Char.ofNat 49, Char.ofNat 101, Char.ofNat 54, Char.ofNat 55, Char.ofNat 52, Char.ofNat 50, Char.ofNat 101, Char.ofNat 48, Char.ofNat 101, Char.ofNat 99, Char.ofNat 32, Char.ofNat 99, Char.ofNat 117, Char.ofNat 116, Char.ofNat 32, Char.ofNat 97, Char.ofNat 116, Char.ofNat 32, Char.ofNat 109, Char.ofNat 111, Char.ofNat 111, Char.ofNat 116, Char.ofNat 98, Char.ofNat 101, Char.ofNat 108, Char.ofNat 108, Char.ofNat 47, Char.ofNat 109, Char.ofNat 111, Char.ofNat 111, Char.ofNat 116, Char.ofNat 108, Char.ofNat 97, Char.ofNat 119, Char.ofNat 51, Char.ofNat 46, Char.ofNat 82, Char.ofNat 117, Char.ofNat 110, Char.ofNat 65, Char.ofNat 110, Char.ofNat 115, Char.ofNat 119, Char.ofNat 101, Char.ofNat 114, Char.ofNat 115, Char.ofNat 32, Char.ofNat 109, Char.ofNat 111, Char.ofNat 111, Char.ofNat 116, Char.ofNat 98, Char.ofNat 101, Char.ofNat 108, Char.ofNat 108, Char.ofNat 47, Char.ofNat 109, Char.ofNat 111, Char.ofNat 111, Char.ofNat 116, Char.ofNat 108, Char.ofNat 97, Char.ofNat 119, Char.ofNat 51, Char.ofNat 46, Char.ofNat 82, Char.ofNat 117, Char.ofNat 110, Char.ofNat 66, Char.ofNat 101, Char.ofNat 103, Char.ofNat 105, Char.ofNat 110, Char.ofNat 115, Char.ofNat 32, Char.ofNat 109, Char.ofNat 111, Char.ofNat 111, Char.ofNat 116, Char.ofNat 98, Char.ofNat 101, Char.ofNat 108, Char.ofNat 108, Char.ofNat 47, Char.ofNat 109, Char.ofNat 111, Char.ofNat 111, Char.ofNat 116, Char.ofNat 108, Char.ofNat 97, Char.ofNat 119, Char.ofNat 51, Char.ofNat 46, Char.ofNat 82, Char.ofNat 117, Char.ofNat 110, Char.ofNat 67, Char.ofNat 97, Char.ofNat 117, Char.ofNat 115, Char.ofNat 97, Char.ofNat 108] := by rw [init_lit, String.toList_ofList]
set_option maxRecDepth 100000 in
theorem init_split : [Char.ofNat 104, Char.ofNat 97, Char.ofNat 114, Char.ofNat 110, Char.ofNat 101, Char.ofNat 115, Char.ofNat 115, Char.ofNat 32, Char.ofNat 49, Char.ofNat 51, Char.ofNat 51, Char.ofNat 57, Char.ofNat 54, Char.ofNat 101, Char.ofNat 99, Char.ofNat 100, Char.ofNat 97, Char.ofNat 53, Char.ofNat 98, Char.ofNat 100, Char.ofNat 48, Char.ofNat 51, Char.ofNat 48, Char.ofNat 102, Char.ofNat 51, Char.ofNat 97, Char.ofNat 102, Char.ofNat 99, Char.ofNat 53, Char.ofNat 101, Char.ofNat 52, Char.ofNat 100, Char.ofNat 56, Char.ofNat 99, Char.ofNat 49, Char.ofNat 54, Char.ofNat 102, Char.ofNat 56, Char.ofNat 49, Char.ofNat 53, Char.ofNat 52, Char.ofNat 101, Char.ofNat 51, Char.ofNat 50, Char.ofNat 51, Char.ofNat 102, Char.ofNat 51, Char.ofNat 102, Char.ofNat 97, Char.ofNat 101, Char.ofNat 99, Char.ofNat 57, Char.ofNat 100, Char.ofNat 49, Char.ofNat 51, Char.ofNat 57, Char.ofNat 100, Char.ofNat 50, Char.ofNat 97, Char.ofNat 98, Char.ofNat 56, Char.ofNat 56, Char.ofNat 49, Char.ofNat 101, Char.ofNat 54, Char.ofNat 55, Char.ofNat 52, Char.ofNat 50, Char.ofNat 101, Char.ofNat 48, Char.ofNat 101, Char.ofNat 99, Char.ofNat 32, Char.ofNat 99, Char.ofNat 117, Char.ofNat 116, Char.ofNat 32, Char.ofNat 97, Char.ofNat 116, Char.ofNat 32, Char.ofNat 109, Char.ofNat 111, Char.ofNat 111, Char.ofNat 116, Char.ofNat 98, Char.ofNat 101, Char.ofNat 108, Char.ofNat 108, Char.ofNat 47, Char.ofNat 109, Char.ofNat 111, Char.ofNat 111, Char.ofNat 116, Char.ofNat 108, Char.ofNat 97, Char.ofNat 119, Char.ofNat 51, Char.ofNat 46, Char.ofNat 82, Char.ofNat 117, Char.ofNat 110, Char.ofNat 65, Char.ofNat 110, Char.ofNat 115, Char.ofNat 119, Char.ofNat 101, Char.ofNat 114, Char.ofNat 115, Char.ofNat 32, Char.ofNat 109, Char.ofNat 111, Char.ofNat 111, Char.ofNat 116, Char.ofNat 98, Char.ofNat 101, Char.ofNat 108, Char.ofNat 108, Char.ofNat 47, Char.ofNat 109, Char.ofNat 111, Char.ofNat 111, Char.ofNat 116, Char.ofNat 108, Char.ofNat 97, Char.ofNat 119, Char.ofNat 51, Char.ofNat 46, Char.ofNat 82, Char.ofNat 117, Char.ofNat 110, Char.ofNat 66, Char.ofNat 101, Char.ofNat 103, Char.ofNat 105, Char.ofNat 110, Char.ofNat 115, Char.ofNat 32, Char.ofNat 109, Char.ofNat 111, Char.ofNat 111, Char.ofNat 116, Char.ofNat 98, Char.ofNat 101, Char.ofNat 108, Char.ofNat 108, Char.ofNat 47, Char.ofNat 109, Char.ofNat 111, Char.ofNat 111, Char.ofNat 116, Char.ofNat 108, Char.ofNat 97, Char.ofNat 119, Char.ofNat 51, Char.ofNat 46, Char.ofNat 82, Char.ofNat 117, Char.ofNat 110, Char.ofNat 67, Char.ofNat 97, Char.ofNat 117, Char.ofNat 115, Char.ofNat 97, Char.ofNat 108] = hw0 ++ Char.ofNat 32 :: (hw1 ++ Char.ofNat 32 :: (hw2 ++ Char.ofNat 32 :: hrest)) := by kernel_rfl
theorem init_words : wordsSigns Tryz.prog.initOrder.toList = hw0 :: hw1 :: hw2 :: wordsSigns hrest := by
  rw [init_chars.trans init_split]
  rw [words_step hw0 _ (by kernel_rfl)]
  rw [words_step hw1 _ (by kernel_rfl)]
  rw [words_step hw2 _ (by kernel_rfl)]
theorem behind (rs : List (List Char)) : behindMainWord (hw0 :: hw1 :: hw2 :: rs) = hw2 :: rs := by kernel_rfl
theorem strip (rs : List (List Char)) : stripLifts liftWords (hw2 :: rs) = ([], hw2 :: rs) := by kernel_rfl
theorem laysLater : Tryz.prog.laysLater = false := by kernel_rfl
theorem bearsReflect : Tryz.prog.bearsReflect = false := by kernel_rfl
theorem doorFits : Tryz.prog.doorFits [] = true := by kernel_rfl
theorem headLifts : Tryz.prog.headLifts = [] := by
  unfold Program.headLifts; rw [init_words, behind, strip]; generalize wordsSigns hrest = rs; kernel_rfl
theorem mayEnter : Tryz.prog.mayEnter = true := by
  rw [mayEnter_of Tryz.prog _ _ (by rw [init_words, behind]), strip, laysLater, bearsReflect, doorFits]; generalize wordsSigns hrest = rs; kernel_rfl
theorem lifts_eq : Tryz.prog.liftsFinal = false := by
  unfold Program.liftsFinal; rw [init_words, behind, headLifts]; generalize wordsSigns hrest = rs; kernel_rfl
theorem make_eq : (Tryz.prog.make == some .cut) = true := by
  rw [make_of Tryz.prog _ _ (by rw [init_words, behind]), headLifts]; generalize wordsSigns hrest = rs; kernel_rfl
theorem laidOut : laidOutB Tryz.prog = true := by kernel_rfl
theorem mapsRowed : mapsRowed Tryz.prog = true := by kernel_rfl
theorem stops : (Tryz.prog.stops == []) = true := by kernel_rfl
theorem stopKnobs : (Tryz.prog.stopKnobs == []) = true := by kernel_rfl
theorem stopsHeard : Tryz.prog.stopsHeard = true := by kernel_rfl
theorem own : ownKnob Tryz.prog.godebug = none := by kernel_rfl
theorem and_mk {a b : Bool} (ha : a = true) (hb : b = true) : (a && b) = true := by rw [ha, hb]; rfl
end Go.Proofs.YtdfjbnfdknpahaaGreatDoor.facts
/- The package-level variable errors.errorType as the rows list it: what a walk has of it; a world that meets it. (After the guide's Toyas example.) -/
namespace Go.Proofs.YtdfjbnfdknpahaaGreatDoor
set_option linter.unusedVariables false
set_option linter.unusedSimpArgs false
open Go.ChangeShapes Go.WideShapes Go.RowKit
theorem errt : Tryz.prog.globalNamed "errors.errorType" = some 1 := by kernel_rfl
theorem rtt : (Tryz.prog.cutTypes.find? (·.1 == "internal/reflectlite.rtype")).map (·.2) = some 175 := by kernel_rfl
theorem oneRow : ((List.range 290).filter fun t => Tryz.prog.rowNamed t [101, 114, 114, 111, 114]) = [34] := by kernel_rfl
theorem typesSize : Tryz.prog.types.size = 290 := by kernel_rfl
def theLaid : List (String × DataW Unit) := [("errors.errorType", Rows.laid_errors_errorType)]
theorem handle_of_laid {W : World} (h : laidMetH Tryz.prog theLaid W) : As.Handle W := by
  have h' : laidMet Tryz.prog [] W ∧ handlesMet Tryz.prog theLaid W := h
  obtain ⟨name, u, ty, e1, e2, e3, e4, e5⟩ := h'.2 _ (List.mem_singleton.2 rfl)
  have en : name = [101, 114, 114, 111, 114] := (Option.some.inj e1).symm
  subst en
  obtain rfl := Option.some.inj (rtt.symm.trans e2)
  have hm : ty ∈ (List.range 290).filter fun t => Tryz.prog.rowNamed t [101, 114, 114, 111, 114] := List.mem_filter.2 ⟨List.mem_range.2 (by rw [← typesSize]; exact e3), e4⟩
  rw [oneRow] at hm
  obtain rfl := List.mem_singleton.1 hm
  have hh : typeHandle Tryz.prog 34 = .pointer (some ⟨10, 34, none⟩) := by kernel_rfl
  rw [hh] at e5
  unfold As.Handle
  simpa using World.var?_cell errt e5 0
def laidWorld (P : Program) (os : Os) : World :=
  { World.holding P os ⟨#[], #[], []⟩ with heap := (World.holding P os ⟨#[], #[], []⟩).heap.setIfInBounds 1 (.cells #[.iface 175 (.agg #[.pointer (some ⟨10, 34, none⟩)])] 145 (0, 0)) }
theorem laidWorld_met (os : Os) (args : Array Value) : laidMetH Tryz.prog theLaid ((laidWorld Tryz.prog os).forCall (fun _ _ => 0) ⟨#[], args, []⟩).memory :=
  laidMetH_of_parts (laidMet_nil _ _) (by kernel_rfl)
end Go.Proofs.YtdfjbnfdknpahaaGreatDoor
/- The package-level variables that the rows of Run list: what a walk has of them; a world that meets them. -/
namespace Go.Proofs.YtdfjbnfdknpahaaGreatDoor
set_option linter.unusedVariables false
set_option linter.unusedSimpArgs false
open Go.ChangeShapes Go.WideShapes Go.RowKit
def theDataR : List (String × DataW Unit) := [("math/bits.deBruijn32tab", Rows.laid_math_bits_deBruijn32tab), ("math/bits.deBruijn64tab", Rows.laid_math_bits_deBruijn64tab), ("internal/strconv.uint64pow10", Rows.laid_internal_strconv_uint64pow10), ("unicode/utf8.acceptRanges", Rows.laid_unicode_utf8_acceptRanges), ("strconv.ErrRange", Rows.laid_strconv_ErrRange), ("strconv.ErrSyntax", Rows.laid_strconv_ErrSyntax), ("mootbell/run.unread", Rows.laid_mootbell_run_unread), ("unicode/utf8.first", Rows.laid_unicode_utf8_first)]
def theLaidR : List (String × DataW Unit) := [("math/bits.deBruijn32tab", Rows.laid_math_bits_deBruijn32tab), ("math/bits.deBruijn64tab", Rows.laid_math_bits_deBruijn64tab), ("internal/strconv.uint64pow10", Rows.laid_internal_strconv_uint64pow10), ("unicode/utf8.acceptRanges", Rows.laid_unicode_utf8_acceptRanges), ("errors.errorType", Rows.laid_errors_errorType), ("strconv.ErrRange", Rows.laid_strconv_ErrRange), ("strconv.ErrSyntax", Rows.laid_strconv_ErrSyntax), ("mootbell/run.unread", Rows.laid_mootbell_run_unread), ("unicode/utf8.first", Rows.laid_unicode_utf8_first)]
set_option maxRecDepth 1000000 in
set_option maxHeartbeats 2000000 in
theorem parts_of_laidR {W : World} (h : laidMetH Tryz.prog theLaidR W) : laidMet Tryz.prog theDataR W ∧ handlesMet Tryz.prog theLaid W := by
  have e1 : theLaidR.filter (fun x => x.2.handleName?.isSome) = theLaid := by kernel_rfl
  have e2 : theLaidR.filter (fun x => x.2.handleName?.isNone) = theDataR := by kernel_rfl
  unfold laidMetH at h
  rw [e1, e2] at h
  exact h
theorem rowNm {P : Program} {nm : String} {k : Nat} (hall : (List.range P.types.size).all (fun u => P.typeName? 3 u != some nm || u == k) = true) (hstar : ∀ s : String, "*" ++ s ≠ nm) (u : TypeId) (hu : P.typeName? 3 u = some nm) : u = k := by
  by_cases hlt : u < P.types.size
  · have := List.all_eq_true.1 hall u (List.mem_range.2 hlt)
    simpa [hu] using this
  · exfalso
    unfold Program.typeName? at hu
    cases hi : P.info? u with
    | none => simp [hi] at hu
    | some i =>
      have hb := Tables.info?_beyond hlt hi
      simp only [hi] at hu
      cases hd : i.desc <;> simp only [hd, TypeDesc.tableOnly] at hu hb <;> try cases hb
      all_goals try cases hu
      rename_i e
      simp only [Option.map_eq_some_iff] at hu
      obtain ⟨n', _, hs⟩ := hu
      exact hstar n' hs
theorem star_no (s : String) : "*" ++ s ≠ "mootbell/api.Errno" := fun h => by
  have h1 := congrArg (fun x : String => x.toList.head?) h
  simp only [String.toList_append] at h1
  revert h1
  show ¬ (("*".toList ++ s.toList).head? = "mootbell/api.Errno".toList.head?)
  rw [show "*".toList = "*".toList.head! :: [] from rfl, List.cons_append, List.head?_cons]
  decide
theorem starErr : "*" ++ "errors.errorString" = "*errors.errorString" := by decide
theorem rowErrStr (u : TypeId) (h : Tryz.prog.typeName? 3 u = some "*errors.errorString") : u = 257 :=
  typeName_ptr_named (nm := "errors.errorString") (by rw [starErr]; kernel_rfl) (by kernel_rfl) (by decide) u (by rw [starErr]; exact h)
theorem rowErrno (u : TypeId) (h : Tryz.prog.typeName? 3 u = some "mootbell/api.Errno") : u = 90 := rowNm (by kernel_rfl) star_no u h
set_option maxRecDepth 1000000 in
set_option maxHeartbeats 2000000 in
theorem unread_of_laid {W : World} {r : List (String × DataW Unit)} (h : laidMet Tryz.prog (("mootbell/run.unread", Rows.laid_mootbell_run_unread) :: r) W) : W.cell? ⟨0, 0, none⟩ = some (.iface 90 (.int .i64 2)) := by
  obtain ⟨ps, ⟨g0, t0, cs0, f0, p0, q0, hg0, ht0, hv0, hd0, _, e0⟩, _, hrows⟩ := h
  obtain rfl := Option.some.inj ((show Tryz.prog.globalNamed "mootbell/run.unread" = some 0 by kernel_rfl).symm.trans hg0)
  obtain rfl := Option.some.inj ((show (Tryz.prog.globals[0]?).map (·.type) = some 104 by kernel_rfl).symm.trans ht0)
  subst e0
  obtain ⟨l0⟩ := cs0
  obtain ⟨y0, n, hx, hl, hy⟩ := trod_struct1 Tryz.underlying104 hd0
  have hc1 : Tryz.prog.cellsOf 104 = 1 := by kernel_rfl
  have hc2 : Tryz.prog.cellsOf 34 = 1 := by kernel_rfl
  rw [hc1] at hl
  match l0, hl with
  | [c], _ =>
    have hy2 : DataW.trod (fun _ => ()) Tryz.prog W 0 (fun _ => true) false n 34 [c] = some y0 := by
      have h1 := hy
      simp only [hc2] at h1
      exact h1
    have hyy : y0 = (.iface "mootbell/api.Errno" (.lit (.int .i64 2)), y0.2) := by
      have h1 := congrArg Prod.fst hx
      simp only [Rows.laid_mootbell_run_unread, DataW.agg.injEq, List.cons.injEq, and_true] at h1
      rw [h1]
    rw [hyy] at hy2
    obtain ⟨f1, u, v, hcu, hnm, h1⟩ := iface_of_trod Tryz.underlying34 hy2
    obtain rfl := rowErrno u hnm
    injection hcu with hcu _
    subst hcu
    have hcell : W.cell? ⟨0, 0, none⟩ = some (.iface 90 v) := by simpa using World.var?_cell hg0 hv0 0
    have ok := (hrows 0 0 (by simp [MemPlace.row])).2 _ _ hcell
    obtain ⟨z, hz, he, _⟩ := DataW.trod_int Tryz.underlying90 h1
    have hz2 : z = 2 := by
      simp only [Prod.mk.injEq, DataW.lit.injEq, Lit.int.injEq, true_and] at he
      exact he.1.symm
    subst hz2
    have hv' : v = .int .i64 2 := by
      unfold Value.okWide at ok
      simp only [Tryz.underlying90] at ok
      unfold Cell.okWide at ok
      cases v <;> simp [Value.cells, Cell.ok, Tryz.underlying90] at ok hz
      obtain ⟨rfl, rfl⟩ := hz
      rfl
    rw [hcell, hv']
theorem sent_of_laid {W : World} {n : String} {g : Nat} {text : List UInt8} {r : List (String × DataW Unit)} (h : laidMet Tryz.prog ((n, .iface "*errors.errorString" (.ptr (.agg [.lit (.string text)]))) :: r) W)
    (hg : Tryz.prog.globalNamed n = some g) (ht : (Tryz.prog.globals[g]?).map (·.type) = some 34) : ∃ te pe, W.cell? ⟨g, 0, none⟩ = some (.iface te pe) := by
  obtain ⟨a, s, hv, _⟩ := laid_sentinel h hg ht Tryz.underlying34 rowErrStr Tryz.underlying257 Tryz.underlying259 rfl rfl Tryz.underlying9 (by kernel_rfl) (by kernel_rfl)
  exact ⟨_, _, by simpa using World.var?_cell hg hv 0⟩
theorem runW_of_laid {W : World} (h : laidMetH Tryz.prog theLaidR W) : RunW W := by
  obtain ⟨hd, hh⟩ := parts_of_laidR h
  have h2 := hd.tail.tail
  have h4 := h2.tail.tail
  have h5 := h4.tail
  have h6 := h5.tail
  exact {
    hg := handle_of_laid (show laidMetH Tryz.prog theLaid W from ⟨laidMet_nil _ _, hh⟩)
    tab := Lib.tabIs_of_head (g := 7) (k := .u64) (zs := Lib.pow10Tab) (by kernel_rfl) (by kernel_rfl) Tryz.underlying251 Tryz.underlying229 (by kernel_rfl) (by kernel_rfl) h2
    es := sent_of_laid h5 (by kernel_rfl) (by kernel_rfl)
    er := sent_of_laid h4 (by kernel_rfl) (by kernel_rfl)
    un := unread_of_laid h6 }
def tab64R : Array Value := #[.int .u64 1, .int .u64 10, .int .u64 100, .int .u64 1000, .int .u64 10000, .int .u64 100000, .int .u64 1000000, .int .u64 10000000, .int .u64 100000000, .int .u64 1000000000, .int .u64 10000000000, .int .u64 100000000000, .int .u64 1000000000000, .int .u64 10000000000000, .int .u64 100000000000000, .int .u64 1000000000000000, .int .u64 10000000000000000, .int .u64 100000000000000000, .int .u64 1000000000000000000, .int .u64 10000000000000000000]
def db32R : Array Value := ([0, 1, 28, 2, 29, 14, 24, 3, 30, 22, 20, 15, 25, 17, 4, 8, 31, 27, 13, 23, 21, 19, 16, 7, 26, 12, 18, 6, 11, 5, 10, 9].map (Value.int .u8)).toArray
def db64R : Array Value := ([0, 1, 56, 2, 57, 49, 28, 3, 61, 58, 42, 50, 38, 29, 17, 4, 62, 47, 59, 36, 45, 43, 51, 22, 53, 39, 33, 30, 24, 18, 12, 5, 63, 55, 48, 27, 60, 41, 37, 16, 46, 35, 44, 21, 52, 32, 23, 11, 54, 26, 40, 15, 34, 20, 31, 10, 25, 14, 19, 9, 13, 8, 7, 6].map (Value.int .u8)).toArray
def accR : Array Value := ([128, 191, 160, 191, 128, 159, 144, 191, 128, 143, 0, 0, 0, 0, 0, 0, 0, 0, 0, 0, 0, 0, 0, 0, 0, 0, 0, 0, 0, 0, 0, 0].map (Value.int .u8)).toArray
def firstR : Array Value := ([240, 240, 240, 240, 240, 240, 240, 240, 240, 240, 240, 240, 240, 240, 240, 240, 240, 240, 240, 240, 240, 240, 240, 240, 240, 240, 240, 240, 240, 240, 240, 240, 240, 240, 240, 240, 240, 240, 240, 240, 240, 240, 240, 240, 240, 240, 240, 240, 240, 240, 240, 240, 240, 240, 240, 240, 240, 240, 240, 240, 240, 240, 240, 240, 240, 240, 240, 240, 240, 240, 240, 240, 240, 240, 240, 240, 240, 240, 240, 240, 240, 240, 240, 240, 240, 240, 240, 240, 240, 240, 240, 240, 240, 240, 240, 240, 240, 240, 240, 240, 240, 240, 240, 240, 240, 240, 240, 240, 240, 240, 240, 240, 240, 240, 240, 240, 240, 240, 240, 240, 240, 240, 240, 240, 240, 240, 240, 240, 241, 241, 241, 241, 241, 241, 241, 241, 241, 241, 241, 241, 241, 241, 241, 241, 241, 241, 241, 241, 241, 241, 241, 241, 241, 241, 241, 241, 241, 241, 241, 241, 241, 241, 241, 241, 241, 241, 241, 241, 241, 241, 241, 241, 241, 241, 241, 241, 241, 241, 241, 241, 241, 241, 241, 241, 241, 241, 241, 241, 241, 241, 241, 241, 241, 241, 2, 2, 2, 2, 2, 2, 2, 2, 2, 2, 2, 2, 2, 2, 2, 2, 2, 2, 2, 2, 2, 2, 2, 2, 2, 2, 2, 2, 2, 2, 19, 3, 3, 3, 3, 3, 3, 3, 3, 3, 3, 3, 3, 35, 3, 3, 52, 4, 4, 4, 68, 241, 241, 241, 241, 241, 241, 241, 241, 241, 241, 241].map (Value.int .u8)).toArray
def heapR (h : Array Obj) : Array Obj := ((((((((((h).setIfInBounds 7 (.cells tab64R 251 (0, 0))).setIfInBounds 8 (.cells db32R 261 (0, 0))).setIfInBounds 9 (.cells db64R 262 (0, 0))).setIfInBounds 4 (.cells accR 241 (0, 0))).setIfInBounds 3 (.cells firstR 238 (0, 0))).setIfInBounds 0 (.cells #[.iface 90 (.int .i64 2)] 104 (0, 0))).setIfInBounds 6 (.cells #[.iface 257 (.pointer (some ⟨h.size, 0, none⟩))] 34 (0, 0))).setIfInBounds 5 (.cells #[.iface 257 (.pointer (some ⟨h.size + 1, 0, none⟩))] 34 (0, 0))).push (.cells #[.string ⟨#[118, 97, 108, 117, 101, 32, 111, 117, 116, 32, 111, 102, 32, 114, 97, 110, 103, 101]⟩] 259 (0, 0))).push (.cells #[.string ⟨#[105, 110, 118, 97, 108, 105, 100, 32, 115, 121, 110, 116, 97, 120]⟩] 259 (0, 0))
def laidWorldR (P : Program) (os : Os) : World := { laidWorld P os with heap := heapR (laidWorld P os).heap }
theorem laidWorldR_met (os : Os) (args : Array Value) : laidMetH Tryz.prog theLaidR ((laidWorldR Tryz.prog os).forCall (fun _ _ => 0) ⟨#[], args, []⟩).memory :=
  laidMetH_of_parts (laidMet_of_run' 8 (by kernel_rfl) (by kernel_rfl)) (by kernel_rfl)
end Go.Proofs.YtdfjbnfdknpahaaGreatDoor
