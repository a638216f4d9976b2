/- AgainOld: what was heard is nothing new. -/
import Derived.Test.YteelldblfmhjlaaDoorAgain
import Derived.Test.YteelldblfmhjlaaDoorTold
namespace Go.Proofs.YteelldblfmhjlaaDoor
set_option linter.unusedVariables false
set_option linter.unusedSimpArgs false
open Go.RowKit
def agAt (i : Nat) : Fi := ⟨[(i : Int) + 1, 1, 1, 1, 1], []⟩
theorem agAt_fit (i : Nat) (h : i ≤ 30) : fiFit (agAt i) :=
  ⟨rfl, fun x hx => by simp [agAt] at hx; omega, by simp [agAt], fun p hp => by simp [agAt] at hp⟩
theorem agAt_err (i : Nat) (h : i < 30) : fiErr (agAt i) 0 ((i : Int) + 1) ((i : Int) + 1) = 0 := by
  unfold fiErr
  rw [if_neg (by decide), if_neg (by omega), if_neg (by omega), if_neg (by simp [isWord]; omega), if_neg (by simp [fiHas, fiN, agAt, mget]), if_neg (by simp [fiN, agAt])]
theorem agAt_take (i : Nat) (h : i < 30) : fiTake (agAt i) 0 ((i : Int) + 1) ((i : Int) + 1) = agAt (i + 1) ∧ fiOut (agAt i) 0 ((i : Int) + 1) ((i : Int) + 1) = [(i : Int) + 1] ∧ heErr (agAt i) ((i : Int) + 1) ((i : Int) + 1) = 0 := by
  have e := agAt_err i h
  have d : fiEnd (agAt i) 0 ((i : Int) + 1) ((i : Int) + 1) = ([(i : Int) + 1], (i : Int) + 1 + 1, []) := by
    unfold fiEnd
    simp [agAt, mput, fiN, fiDrain, mget, mdel]
  refine ⟨?_, ?_, ?_⟩
  · unfold fiTake; rw [if_pos e, d]; simp [agAt]
  · unfold fiOut; rw [if_pos e, d]
  · unfold heErr; rw [e]; rfl
theorem agAt_old (n k : Nat) (hn : n ≤ 30) (h1 : 1 ≤ k) (hk : k ≤ n) : fiTake (agAt n) 0 k k = agAt n ∧ fiOut (agAt n) 0 k k = [] ∧ heErr (agAt n) k k = 0 := by
  have e : fiErr (agAt n) 0 k k = 7 := by
    unfold fiErr
    rw [if_neg (by decide), if_neg (by omega), if_neg (by omega), if_neg (by simp [isWord]; omega), if_pos (by simp [fiHas, fiN, agAt, mget]; omega)]
  refine ⟨?_, ?_, ?_⟩
  · unfold fiTake; rw [if_neg (by rw [e]; simp)]
  · unfold fiOut; rw [if_neg (by rw [e]; simp)]
  · unfold heErr; rw [e]; rfl
theorem agAt_lacks (n : Nat) : heLacks (agAt n) (n : Int) = [] := by
  unfold heLacks
  split
  · simp [fiN, agAt, heRow]
  · rfl
theorem ag_bad : heErr fiNew 0 1 = 1 ∧ fiFit fiNew := ⟨by decide, agAt_fit 0 (by omega)⟩
set_option maxRecDepth 100000 in
set_option maxHeartbeats 4000000 in
theorem againOld_law (w : World) (hg : As.Handle w) (n : Int) (_hn : I64 n) (k : Int) (_hk : I64 k) :
    Calls Tryd.prog 7 #[.int .i64 n, .int .i64 k] w fun e w' => e = .returned (.bool true) ∧ Below w.heap.size w w' := by
  have HG := Lib.hid hg
  clear hg
  by_cases hb : n < 1 ∨ 30 < n ∨ k < 1 ∨ n < k
  · have F := Lib.hid ag_bad
    have hh : n < 1 ∨ (¬ n < 1 ∧ 30 < n) ∨ (¬ n < 1 ∧ ¬ 30 < n ∧ k < 1) ∨ (¬ n < 1 ∧ ¬ 30 < n ∧ ¬ k < 1 ∧ n < k) := by omega
    clear hb
    rcases hh with h1 | ⟨h1, h2⟩ | ⟨h1, h2, h3⟩ | ⟨h1, h2, h3, h4⟩
    all_goals
      go_enter Tryd.func7, Tryd.ntmps7
      go_wp2_with fail
      refine (heNew_any (Own.start w)).mono ?_
      rintro e w' ⟨p, rfl, ho⟩
      have HO := Lib.hid ho
      clear ho
      go_wp2_with fail
      refine (heTake_any p fiNew 0 1 F.out.2 HO.out).mono ?_
      rintro e w' ⟨v, rfl, ho⟩
      rw [F.out.1]
      have HO1 := Lib.hid ho
      clear ho HO
      go_wp2_with fail
      refine (sameErr_any HG.out 1 1 HO1.out).mono ?_
      rintro e w' ⟨rfl, ho⟩
      have HO2 := Lib.hid ho
      clear ho
      go_wp2
      go_ret
      exact ⟨rfl, HO2.out.below⟩
  have hb2 : 1 ≤ n ∧ n ≤ 30 ∧ 1 ≤ k ∧ k ≤ n := by omega
  obtain ⟨N, rfl⟩ := Int.eq_ofNat_of_zero_le (show 0 ≤ n by omega)
  obtain ⟨K, rfl⟩ := Int.eq_ofNat_of_zero_le (show 0 ≤ k by omega)
  have h1 : 1 ≤ N := by omega
  have h2 : N ≤ 30 := by omega
  have h3 : 1 ≤ K := by omega
  have h4 : K ≤ N := by omega
  have i1 : (1 : Int) ≤ N := by omega
  have i2 : (N : Int) ≤ 30 := by omega
  have i3 : (1 : Int) ≤ K := by omega
  have d1 : decide (N < K) = false := by simp; omega
  clear hb hb2
  go_enter Tryd.func7, Tryd.ntmps7
  go_wp2_with fail
  refine (heNew_any (Own.start w)).mono ?_
  rintro e w' ⟨p, rfl, ho⟩
  have HO := Lib.hid ho
  clear ho
  go_wp2_with fail
  go_loopw [8] (fun i wr => ∃ j : Nat, j ≤ N ∧ i = .int .i64 ((j : Int) + 1) ∧ Hid (Own w (HeP p (agAt j) * emp) wr)) (fun i _ => N + 1 - (intOf i).toNat)
  case atStart => exact ⟨0, Nat.zero_le _, rfl, HO⟩
  case round =>
    obtain ⟨j, hj, rfl, hp⟩ := hrel
    by_cases hlt : j < N
    · have i5 : (j : Int) + 1 ≤ N := by omega
      have T := Lib.hid (agAt_take j (by omega))
      have TF := Lib.hid (agAt_fit j (by omega))
      go_wp2_with fail
      refine (heTake_any p (agAt j) ((j : Int) + 1) ((j : Int) + 1) TF.out hp.out).mono ?_
      rintro e w' ⟨v, rfl, ho⟩
      rw [T.out.2.2, errV0]
      rw [T.out.1, T.out.2.1] at ho
      obtain ⟨ad, cp, hv⟩ := ho.int_shape
      have hv' : v = .slice ad 1 cp := hv
      subst hv'
      have HO1 := Lib.hid ho.drop
      clear ho hv
      go_wp2_with fail
      go_roundw
      case rel => exact ⟨j + 1, by omega, by go_num, HO1⟩
      case measure => simp [intOf]; omega
    · have i5 : ¬ ((j : Int) + 1 ≤ N) := by omega
      obtain rfl : j = N := by omega
      have T := Lib.hid (agAt_old j K h2 h3 h4)
      have TF := Lib.hid (agAt_fit j h2)
      have TL := Lib.hid (agAt_lacks j)
      go_wp2_with fail
      refine (heTake_any p (agAt j) K K TF.out hp.out).mono ?_
      rintro e w' ⟨v, rfl, ho⟩
      rw [T.out.2.2, errV0]
      rw [T.out.1, T.out.2.1] at ho
      obtain ⟨ad, cp, hv⟩ := ho.int_shape
      have hv' : v = .slice ad 0 cp := hv
      subst hv'
      have HO1 := Lib.hid ho.drop
      clear ho hv
      go_wp2_with fail
      refine (heLacks_any p (agAt j) j TF.out HO1.out).mono ?_
      rintro e w' ⟨v2, rfl, ho⟩
      rw [if_pos (show isCount (j : Int) = true by simp [isCount]; omega), errV0]
      rw [TL.out] at ho
      obtain ⟨ad2, cp2, hv⟩ := ho.int_shape
      have hv' : v2 = .slice ad2 0 cp2 := hv
      subst hv'
      have HO2 := Lib.hid ho.drop
      clear ho hv
      go_wp2_with fail
      go_ret
      exact ⟨rfl, HO2.out.below⟩
end Go.Proofs.YteelldblfmhjlaaDoor
