/- LeaderPlays: anything that is given a place, and that comes: what is refused, what is heard, what lacks. -/
import Derived.Test.YteelldblfmhjlaaDoorLeaderPlaysR
import Derived.Deep.DeepCutAuto
import Derived.Deep.CutBlock
namespace Go.Proofs.YteelldblfmhjlaaDoor
set_option linter.unusedVariables false
set_option linter.unusedSimpArgs false
open Go.RowKit
set_option maxRecDepth 100000 in
set_option maxHeartbeats 4000000 in
theorem leaderPlays_law (w : World) (hg : As.Handle w) (n : Int) (hn : I64 n) (vs : Value) (steps : List (List Int)) (hvs : Rows2 w vs steps) :
    Calls Tryd.prog 10 #[.int .i64 n, vs] w fun e w' => e = .returned (.bool true) ∧ Below w.heap.size w w' := by
  obtain ⟨sad, scap, rfl, hsc1, hsc2⟩ := hvs.shape
  have HVS := Lib.hid hvs; have HG := Lib.hid hg; have HN := Lib.hid hn
  clear hvs hg hn
  cases hb : isGroup n
  · have ex : n < 2 ∨ (¬ n < 2 ∧ 5 < n) := isGroup_cases hb
    have HB := Lib.hid hb
    clear hb
    rcases ex with h1 | ⟨h1, h2⟩
    all_goals
      go_enter Tryd.func10, Tryd.ntmps10
      go_wp2_with fail
      refine (ldNew_no _ _ HB.out).mono ?_
      rintro e w' ⟨rfl, rfl⟩
      go_wp2_with fail
      refine (sameErr_any HG.out 1 1 (Own.start w)).mono ?_
      rintro e w5 ⟨rfl, ho⟩
      rw [show (((1 : Nat) : Int) == 1) = true from rfl]
      go_wp2
      go_ret
      exact ⟨rfl, ho.below⟩
  have hgr : 2 ≤ n ∧ n ≤ 5 := by simp [isGroup] at hb; omega
  obtain ⟨N, rfl⟩ := Int.eq_ofNat_of_zero_le (show 0 ≤ n by omega)
  have hN1 : 2 ≤ N := by omega
  have hN2 : N ≤ 5 := by omega
  have s1 : ¬ (N : Int) < 2 := by omega
  have s2 : ¬ (5 : Int) < (N : Int) := by omega
  clear hgr
  have HB := Lib.hid hb
  clear hb
  go_enter Tryd.func10, Tryd.ntmps10
  go_wp2_with fail
  refine (ldNew_yes N HB.out (Own.start w)).mono ?_
  rintro e w' ⟨p, rfl, ho⟩
  go_wp2_with fail
  refine (sameErr_any HG.out 0 0 ho).mono ?_
  rintro e w5 ⟨rfl, ho⟩
  rw [show (((0 : Nat) : Int) == 0) = true from rfl]
  obtain ⟨q, hq⟩ : ∃ q, q = w5.heap.size := ⟨_, rfl⟩
  have ho1 := ho.alloc (.cells #[.int .i64 N, .slice none 0 0, .bool false, .bool false, .bool false, .bool false, .bool false, .bool false, .bool false, .bool false, .bool false, .bool false, .bool false, .bool false, .bool false, .bool false, .bool false, .bool false, .bool false, .bool false, .bool false, .bool false, .bool false, .bool false, .bool false, .bool false, .bool false, .bool false, .bool false, .bool false, .bool false, .bool false, .bool false, .bool false, .bool false, .bool false, .bool false, .bool false, .bool false, .bool false, .bool false, .bool false, .bool false, .bool false, .bool false, .bool false, .bool false, .bool false, .bool false, .bool false, .bool false, .bool false, .bool false, .bool false, .bool false, .bool false, .bool false, .bool false, .bool false, .bool false, .bool false, .bool false, .bool false, .bool false, .bool false, .bool false, .bool false, .bool false, .bool false, .bool false, .bool false, .bool false, .bool false, .bool false, .bool false, .bool false, .bool false, .bool false, .bool false, .bool false, .bool false, .bool false, .bool false, .bool false, .bool false, .bool false, .bool false, .bool false, .bool false, .bool false, .bool false, .bool false, .bool false, .bool false, .bool false, .bool false, .bool false, .bool false, .bool false, .bool false, .bool false, .bool false, .bool false, .bool false, .bool false, .bool false, .bool false, .bool false, .bool false, .bool false, .bool false, .bool false, .bool false, .bool false, .bool false, .bool false, .bool false, .bool false, .bool false, .bool false, .bool false, .bool false, .bool false, .bool false, .bool false, .bool false, .bool false, .bool false, .bool false, .bool false, .bool false, .bool false, .bool false, .bool false, .bool false, .bool false, .bool false, .bool false, .bool false, .bool false, .bool false, .bool false, .bool false, .bool false, .bool false, .bool false, .bool false, .bool false, .bool false, .bool false, .bool false, .bool false, .bool false, .bool false, .bool false, .bool false, .bool false] 91)
  rw [← hq] at ho1
  have HO := Lib.hid ((rlStart ho1).perm (show _ = LdP p (ldNew N) * (RlP q (ldNew N) * emp) by ac_rfl))
  have HI0 := Lib.hid (ldInv_new N)
  clear ho ho1
  go_wp2_with fail
  rw [← hq]
  clear hq
  go_loopw [10] (fun i wr => ∃ (k : Nat) (l : Ld), k ≤ steps.length ∧ k ≤ 120 ∧ i = .int .i64 k ∧ Hid (LdInv N l) ∧ Hid (Own w (LdP p l * (RlP q l * emp)) wr)) (fun i _ => steps.length - (intOf i).toNat)
  case atStart => exact ⟨0, _, Nat.zero_le _, Nat.zero_le _, rfl, HI0, HO⟩
  case round =>
    clear HO HI0
    obtain ⟨k, l, hk, hk2, rfl, HI, HP⟩ := hrel
    by_cases h1 : k < steps.length
    rotate_left
    · go_wp2
      go_ret
      exact ⟨rfl, HP.out.below⟩
    by_cases h2 : k < 120
    rotate_left
    · go_wp2
      go_ret
      exact ⟨rfl, HP.out.below⟩
    go_upto_block 1 with fail
    go_cut [] (fun wx => ∃ l2, LdInv N l2 ∧ Own w (LdP p l2 * (RlP q l2 * emp)) wx)
    case first =>
      refine lqRound w N p q k steps l sad scap HG hN1 hN2 h1 h2 hsc1 hsc2 HVS HI HP ?_
      intros
      go_step
      go_step
      go_meet
      assumption
    case rest =>
    obtain ⟨l2, hI2, hP2⟩ := hcut
    have HI2 := Lib.hid hI2
    have HP2 := Lib.hid hP2
    clear hI2 hP2
    go_wp2_with fail
    go_roundw
    case rel => exact ⟨k + 1, l2, by omega, by omega, by go_num, HI2, HP2⟩
    case measure => simp [intOf]; omega
end Go.Proofs.YteelldblfmhjlaaDoor
