/- AgainPlays: anything that is said, asked for, freed, and that comes: what is refused, what is heard, what lacks. -/
import Derived.Test.YteelldblfmhjlaaDoorAgainPlaysR
import Derived.Deep.DeepCutAuto
import Derived.Deep.CutBlock
namespace Go.Proofs.YteelldblfmhjlaaDoor
set_option linter.unusedVariables false
set_option linter.unusedSimpArgs false
open Go.RowKit
set_option maxRecDepth 100000 in
set_option maxHeartbeats 4000000 in
theorem againPlays_law (w : World) (hg : As.Handle w) (vs : Value) (steps : List (List Int)) (hvs : Rows2 w vs steps) :
    Calls Tryd.prog 8 #[vs] w fun e w' => e = .returned (.bool true) ∧ Below w.heap.size w w' := by
  obtain ⟨sad, scap, rfl, hsc1, hsc2⟩ := hvs.shape
  have HVS := Lib.hid hvs; have HG := Lib.hid hg
  clear hvs hg
  go_enter Tryd.func8, Tryd.ntmps8
  go_wp2_with fail
  refine (seNew_any (Own.start w)).mono ?_
  rintro e w' ⟨sp, rfl, ho⟩
  have HO := Lib.hid ho
  clear ho
  go_wp2_with fail
  refine (heNew_any HO.out).mono ?_
  rintro e w' ⟨hp, rfl, ho⟩
  obtain ⟨mp, hmp⟩ : ∃ q, q = w'.heap.size := ⟨_, rfl⟩
  have ho1 := snNew (ho.alloc (.cells #[.slice none 0 0, .int .i64 0] 67))
  rw [← hmp] at ho1
  obtain ⟨fp, hfp⟩ : ∃ q, q = w'.heap.size + 1 := ⟨_, rfl⟩
  have ho2 := rfNew (ho1.alloc (.cells #[.int .i64 0, .int .i64 0, .int .i64 0, .int .i64 0, .int .i64 0, .slice none 0 0] 54))
  have hsz : (w'.alloc (.cells #[.slice none 0 0, .int .i64 0] 67)).heap.size = fp := by rw [hfp]; simp
  rw [hsz] at ho2
  have HO1 : Hid (Own w (ApO sp hp mp fp [] 0 fiNew * emp) _) := Lib.hid (ho2.perm (show _ = SeP sp (sa [] 0) * (HeP hp fiNew * (SnP mp [] 0 * RfP fp fiNew)) * emp by rw [show (sa [] 0) = ⟨[], 0⟩ from rfl]; ac_rfl))
  have HI0 := Lib.hid (show ApI [] 0 fiNew 0 from ⟨Nat.le_refl _, Nat.le_refl _, fun x hx => (by cases hx), fiNew_fit, fun p hp => (by cases hp)⟩)
  clear ho ho1 ho2 HO hsz
  go_wp2_with fail
  rw [← hfp, ← hmp]
  clear hfp hmp
  go_loopw [7] (fun i wr => ∃ (k : Nat) (A : List Int) (F : Nat) (f : Fi), k ≤ steps.length ∧ k ≤ 120 ∧ i = .int .i64 k ∧ Hid (ApI A F f k) ∧ Hid (Own w (ApO sp hp mp fp A F f * emp) wr)) (fun i _ => steps.length - (intOf i).toNat)
  case atStart => exact ⟨0, [], 0, fiNew, Nat.zero_le _, Nat.zero_le _, rfl, HI0, HO1⟩
  case round =>
    clear HO1 HI0
    obtain ⟨k, A, F, f, hk, hk2, rfl, HI, HP⟩ := hrel
    by_cases h1 : k < steps.length
    rotate_left
    · go_wp2
      go_ret
      exact ⟨rfl, HP.out.below⟩
    by_cases h2 : k < 120
    rotate_left
    · go_wp2
      go_ret
      exact ⟨rfl, HP.out.below⟩
    go_upto_block 1 with fail
    go_cut [] (fun wx => ∃ A2 F2 f2, ApI A2 F2 f2 (k + 1) ∧ Own w (ApO sp hp mp fp A2 F2 f2 * emp) wx)
    case first =>
      refine apRound w sp hp mp fp k F A f steps sad scap HG h1 h2 hsc1 hsc2 HVS HI HP ?_
      intros
      go_step
      go_step
      go_meet
      assumption
    case rest =>
    obtain ⟨A2, F2, f2, hI2, hP2⟩ := hcut
    have HI2 := Lib.hid hI2
    have HP2 := Lib.hid hP2
    clear hI2 hP2
    go_wp2_with fail
    go_roundw
    case rel => exact ⟨k + 1, A2, F2, f2, by omega, by omega, by go_num, HI2, HP2⟩
    case measure => simp [intOf]; omega
end Go.Proofs.YteelldblfmhjlaaDoor
