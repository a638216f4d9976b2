/- TokenRound: once around it is back. -/
import Derived.Test.YtclapdicocbnoaaToken2
namespace Go.Proofs.Ytclapdicocbnoaa
set_option linter.unusedVariables false
set_option linter.unusedSimpArgs false
open Go.RowKit
def tokAt (n most i : Nat) : Tok := ⟨most, i % n, List.replicate n [], [], 0⟩
theorem tokAt_row (n most i : Nat) : tokRow (tokAt n most i) = [] := by
  unfold tokRow tokAt
  simp only [List.getD_eq_getElem?_getD, List.getElem?_replicate]
  split <;> rfl
theorem tokAt_pass (n most i : Nat) (hn : 2 ≤ n) : tokPass (tokAt n most i) = tokAt n most (i + 1) := by
  have hr := tokAt_row n most i
  have hN : tokN (tokAt n most i) = 0 := by unfold tokN; rw [hr]; simp
  unfold tokPass
  rw [hN, hr]
  unfold tokAt
  simp [Nat.add_mod]
theorem tokAt_out (n most i : Nat) : passOut (tokAt n most i) = [] := by
  have hN : tokN (tokAt n most i) = 0 := by unfold tokN; rw [tokAt_row]; simp
  unfold passOut
  rw [hN]; rfl
theorem tokAt_fit (n most i : Nat) (h1 : 2 ≤ n) (h2 : n ≤ 5) (h3 : 1 ≤ most) (h4 : most ≤ 10) : tokFit (tokAt n most i) := by
  have h5 : i % n < n := Nat.mod_lt _ (by omega)
  refine ⟨by simp [tokAt]; omega, by simpa [tokAt] using h5, ⟨h3, h4⟩, fun l hl => ?_, by simp [tokAt]⟩
  simp [tokAt] at hl
  rw [hl.2]; simp
theorem tokNew_at (n most : Nat) : tokNew n most = tokAt n most 0 := by simp [tokNew, tokAt]
/-- The holder's cell. -/
theorem Own.tok_holder {w0 w : World} {p : Nat} {t : Tok} {R : HProp} (h : Own w0 (TokP p t * R) w) : w.cell? ⟨p, 1, none⟩ = some (.int .i64 t.holder) := by
  obtain ⟨rb, off, cap, mb, rs, he, ho⟩ := h.tok_open
  exact ho.tok_facts.2.1
def tokLast (n most : Nat) : Tok := ⟨most, 0, (List.replicate n []).set 0 [5], [5], 0⟩
theorem tokLast_is (n most k : Nat) (h0 : k % n = 0) (he : tokErr (tokAt n most k) 0 5 = 0) : tokSay (tokAt n most k) 0 5 = tokLast n most := by
  unfold tokSay
  rw [if_pos he]
  unfold tokAt tokLast
  simp only [h0]
  cases n with
  | zero => simp
  | succ n => simp [List.replicate_succ]
theorem tokLast_row (n most : Nat) (hn : 2 ≤ n) : tokRow (tokLast n most) = [5] := by
  unfold tokRow tokLast
  cases n with
  | zero => omega
  | succ n => simp [List.replicate_succ]
theorem tokLast_out (n most : Nat) (hn : 2 ≤ n) (hm : 1 ≤ most) : (passOut (tokLast n most)).length = 1 := by
  unfold passOut
  rw [List.length_map, List.length_range]
  unfold tokN
  rw [tokLast_row n most hn]
  show min 1 most = 1
  omega
theorem tokLast_fit (n most : Nat) (h1 : 2 ≤ n) (h2 : n ≤ 5) (h3 : 1 ≤ most) (h4 : most ≤ 10) : tokFit (tokLast n most) := by
  refine ⟨by simp [tokLast]; omega, by simp [tokLast]; omega, ⟨h3, h4⟩, fun l hl => ?_, by simp [tokLast]⟩
  have := List.mem_or_eq_of_mem_set hl
  rcases this with h | rfl
  · simp at h; rw [h.2]; simp
  · simp
theorem tok_errV1 : errV 1 = .iface 31 (.int .i64 1) := rfl
theorem tokBad_cases {n most : Int} (h : tokBad n most = true) : n < 2 ∨ (¬ n < 2 ∧ 5 < n) ∨ (¬ n < 2 ∧ ¬ 5 < n ∧ most < 1) ∨ (¬ n < 2 ∧ ¬ 5 < n ∧ ¬ most < 1 ∧ 10 < most) := by
  simp [tokBad, isGroup] at h; omega
set_option maxRecDepth 100000 in
set_option maxHeartbeats 4000000 in
theorem tokenRound_law (w : World) (n : Int) (_hn : I64 n) (most : Int) (_hm : I64 most) (rounds : Int) (_hr : I64 rounds) :
    Calls Try.prog 5 #[.int .i64 n, .int .i64 most, .int .i64 rounds] w fun e w' => e = .returned (.bool true) ∧ Below w.heap.size w w' := by
  cases hb : tokBad n most
  case true =>
    have HB := Lib.hid hb
    clear hb
    rcases tokBad_cases HB.out with h | ⟨h1, h⟩ | ⟨h1, h2, h⟩ | ⟨h1, h2, h3, h⟩
    all_goals
      go_enter Try.func5, Try.ntmps5
      go_wp2_with fail
      refine (tokNew_no _ _ _ HB.out).mono ?_
      rintro e w' ⟨rfl, rfl⟩
      rw [tok_errV1]
      go_wp2
      go_ret
      exact ⟨rfl, Below.refl _ _⟩
  have hg : isGroup n = true := by cases hg : isGroup n <;> simp [tokBad, hg] at hb ⊢
  have hn5 : 2 ≤ n ∧ n ≤ 5 := by simp [isGroup] at hg; omega
  have hm1 : 1 ≤ most ∧ most ≤ 10 := by simp [tokBad, hg] at hb; omega
  obtain ⟨n, rfl⟩ := Int.eq_ofNat_of_zero_le (show 0 ≤ n by omega)
  obtain ⟨most, rfl⟩ := Int.eq_ofNat_of_zero_le (show 0 ≤ most by omega)
  have hn1 : 2 ≤ n := by omega
  have hn2 : n ≤ 5 := by omega
  have hmm1 : 1 ≤ most := by omega
  have hmm2 : most ≤ 10 := by omega
  have HB := Lib.hid hb
  clear hb hg hn5 hm1
  have hd2 : decide ((n : Int) < 2) = false := by simp; omega
  have hd3 : decide ((5 : Int) < (n : Int)) = false := by simp; omega
  rcases (by omega : rounds < 0 ∨ (¬ rounds < 0 ∧ 50 < rounds) ∨ (0 ≤ rounds ∧ rounds ≤ 50)) with hr | ⟨hr1, hr⟩ | ⟨hr1, hr2⟩
  · go_enter Try.func5, Try.ntmps5
    go_wp2_with fail
    refine (tokNew_yes n most HB.out (Own.start _)).mono ?_
    rintro e w' ⟨p, rfl, hown⟩
    have hbel := hown.below
    go_wp2
    go_ret
    exact ⟨rfl, hbel⟩
  · go_enter Try.func5, Try.ntmps5
    go_wp2_with fail
    refine (tokNew_yes n most HB.out (Own.start _)).mono ?_
    rintro e w' ⟨p, rfl, hown⟩
    have hbel := hown.below
    go_wp2
    go_ret
    exact ⟨rfl, hbel⟩
  · obtain ⟨r, rfl⟩ := Int.eq_ofNat_of_zero_le hr1
    have hr50 : r ≤ 50 := by omega
    obtain ⟨N, hN⟩ : ∃ N, N = r * n := ⟨_, rfl⟩
    have hN2 : N ≤ 250 := by rw [hN]; exact Nat.le_trans (Nat.mul_le_mul hr50 hn2) (by omega)
    have hNZ : (r : Int) * (n : Int) = (N : Int) := by rw [hN]; simp
    have hd0 : ¬ (r : Int) < 0 := by omega
    have hd1 : ¬ 50 < (r : Int) := by omega
    have hmodN : N % n = 0 := by rw [hN]; exact Nat.mul_mod_left _ _
    have HN := Lib.hid hN; have HM := Lib.hid hmodN
    clear hN hr1 hr2 hmodN
    go_enter Try.func5, Try.ntmps5
    go_wp2_with fail
    refine (tokNew_yes n most HB.out (Own.start _)).mono ?_
    rintro e w' ⟨p, rfl, hown⟩
    rw [tokNew_at] at hown
    have HO := Lib.hid hown
    clear hown
    go_wp2_with fail
    go_loopw [9] (fun i wr => ∃ k : Nat, k ≤ N ∧ i = .int .i64 k ∧ Hid (Own w (TokP p (tokAt n most k) * emp) wr)) (fun i _ => N - (intOf i).toNat)
    case atStart => exact ⟨0, Nat.zero_le _, rfl, HO.out⟩
    case round =>
      obtain ⟨k, hk, rfl, hp⟩ := hrel
      by_cases hlt : k < N
      · have hc := hp.out.tok_holder
        obtain ⟨h, hh⟩ : ∃ h, h = k % n := ⟨_, rfl⟩
        have hmod : (k : Int).tmod n = (h : Int) := by rw [hh, Int.natCast_emod]; exact Int.tmod_eq_emod_of_nonneg (by omega)
        have hn0 : ¬ n = 0 := by omega
        have hc2 : wr.drew.cell? ⟨p, 1, none⟩ = some (.int .i64 (h : Int)) := by rw [hh]; exact hc
        have HP := Lib.hid hp.out
        have HC := Lib.hid hc2
        clear hp hc hc2 hh
        go_wp2_with fail
        go_region_law (first | (go_simp; go_at_call 31; refine (tokHolder_any p (h : Int) wr.drew HC.out).mono ?_; rintro e w1 ⟨rfl, rfl⟩) | (go_simp; go_at_call 32; refine (tokPass_any p _ (tokAt_fit n most k hn1 hn2 hmm1 hmm2) HP.out.drew).mono ?_; rintro e w1 ⟨v, rfl, ho⟩; rw [tokAt_out, tokAt_pass n most k hn1] at ho; obtain ⟨ad, cp, rfl, _⟩ := Own.rd ho; have HW := Lib.hid ho.drop; clear ho))
        all_goals
          go_wp2
          refine ⟨⟨k + 1, by omega, by go_num, HW.out⟩, ?_⟩
          simp [intOf] <;> omega
      · have hkn : k = N := by omega
        subst hkn
        have hc := hp.out.tok_holder
        have hc0 : wr.cell? ⟨p, 1, none⟩ = some (.int .i64 0) := by rw [hc]; simp [tokAt, HM.out]
        have HP := Lib.hid hp.out
        have hf := tokAt_fit n most k hn1 hn2 hmm1 hmm2
        clear hp hc
        have hin : tokErr (tokAt n most k) 0 5 = 0 := by
          have : inR 0 n = true := by simp [inR]; omega
          simp [tokErr, tokAt, this, isWord]
        have HIN := Lib.hid hin
        have HF := Lib.hid hf
        clear hin hf
        go_wp2_with fail
        refine (tokHolder_any p 0 _ hc0).mono ?_
        rintro e w1 ⟨rfl, rfl⟩
        go_wp2_with fail
        refine (tokSay_any p _ 0 5 HF.out HP.out).mono ?_
        rintro e w1 ⟨rfl, ho1⟩
        rw [HIN.out, errV0]
        rw [tokLast_is n most k HM.out HIN.out] at ho1
        have HO1 := Lib.hid ho1
        clear ho1
        go_wp2_with fail
        refine (tokPass_any p _ (tokLast_fit n most hn1 hn2 hmm1 hmm2) HO1.out).mono ?_
        rintro e w2 ⟨v, rfl, ho2⟩
        have hbel := ho2.below
        obtain ⟨ad, cp, rfl, _⟩ := Own.rd ho2
        rw [tokLast_out n most hn1 hmm1]
        clear ho2
        go_wp2
        go_ret
        exact ⟨rfl, hbel⟩
end Go.Proofs.Ytclapdicocbnoaa
