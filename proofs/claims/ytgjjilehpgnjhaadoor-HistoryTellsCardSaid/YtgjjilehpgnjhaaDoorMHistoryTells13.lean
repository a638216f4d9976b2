/- HistoryTells: the program's history and the reference's tell the same. -/
import Derived.Test.YtgjjilehpgnjhaaDoorMHistoryTells11
import Derived.Test.YtgjjilehpgnjhaaDoorMHistoryTells12
import Derived.Test.YtgjjilehpgnjhaaDoorRows
import Derived.ProofKit
import Derived.KernelRfl
namespace Go.Proofs.YtgjjilehpgnjhaaDoor
set_option linter.unusedVariables false
set_option linter.unusedSimpArgs false
open Go.RowKit
theorem befErr_cases (hs : List Ev) (i k : Int) : ((histR hs).2 ≠ 0 ∧ befErr hs i k = (histR hs).2) ∨ ((histR hs).2 = 0 ∧ (i < 0 ∨ (hs.length : Int) ≤ i ∨ k < 0 ∨ (hs.length : Int) ≤ k) ∧ befErr hs i k = 1) ∨ ((histR hs).2 = 0 ∧ (0 ≤ i ∧ i < hs.length ∧ 0 ≤ k ∧ k < hs.length) ∧ befErr hs i k = 0) := by
  unfold befErr
  by_cases h0 : (histR hs).2 = 0
  · rw [if_neg (by simpa using h0)]
    by_cases h1 : 0 ≤ i ∧ i < hs.length ∧ 0 ≤ k ∧ k < hs.length
    · refine .inr (.inr ⟨h0, h1, ?_⟩)
      rw [if_neg]
      unfold insideB
      simp; omega
    · refine .inr (.inl ⟨h0, by omega, ?_⟩)
      rw [if_pos]
      unfold insideB
      simp; omega
  · exact .inl ⟨h0, by rw [if_pos h0]⟩
theorem pastErr_cases (hs : List Ev) (i : Int) : ((histR hs).2 ≠ 0 ∧ pastErr hs i = (histR hs).2) ∨ ((histR hs).2 = 0 ∧ (i < 0 ∨ (hs.length : Int) ≤ i) ∧ pastErr hs i = 1) ∨ ((histR hs).2 = 0 ∧ (0 ≤ i ∧ i < hs.length) ∧ pastErr hs i = 0) := by
  unfold pastErr
  by_cases h0 : (histR hs).2 = 0
  · rw [if_neg (by simpa using h0)]
    by_cases h1 : 0 ≤ i ∧ i < hs.length
    · refine .inr (.inr ⟨h0, h1, ?_⟩)
      rw [if_neg]
      unfold insideB
      simp; omega
    · refine .inr (.inl ⟨h0, by omega, ?_⟩)
      rw [if_pos]
      unfold insideB
      simp; omega
  · exact .inl ⟨h0, by rw [if_pos h0]⟩
theorem histR_err_le (hs : List Ev) : (histR hs).2 ≤ 1000 := by
  have h1 : ∀ (l : List Ev) (e : Ev), evErr l e ≤ 1000 := fun l e => by unfold evErr; (repeat' split) <;> omega
  have h2 : ∀ (r ahead : List Ev), (histGo ahead r).2 ≤ 1000 := by
    intro r
    induction r with
    | nil => intro ahead; unfold histGo; simp
    | cons e r ih =>
      intro ahead
      unfold histGo
      split
      · exact h1 _ _
      · exact ih _
  unfold histR
  split
  · simp
  · exact h2 _ _
theorem cutErr_E (hs : List Ev) (many : List Int) : cutErr hs many = if (histR hs).2 ≠ 0 then (histR hs).2 else refCutE hs many := by unfold cutErr refCutE; rfl
theorem ht_same (n : Nat) : ((n : Int) == (n : Int)) = true := by simp
theorem beq_zero_nat (n : Nat) : (((n : Int) == 0) = decide (n = 0)) := by
  by_cases h : n = 0
  · subst h; rfl
  · rw [decide_eq_false h, beq_eq_false_iff_ne]; omega
set_option maxRecDepth 100000 in
set_option maxHeartbeats 4000000 in
theorem historyTells_law (w : World) (hg : As.Handle w) (vh : Value) (hs : List Ev) (hvh : Evs w vh hs) (i : Int) (hi : I64 i) (k : Int) (hk : I64 k) (vm : Value) (many : List Int) (hvm : Ints w vm many) :
    Calls Tryd.prog 4 #[vh, .int .i64 i, .int .i64 k, vm] w fun e w' => e = .returned (.bool true) ∧ Below w.heap.size w w' := by
  obtain ⟨had, hcap, rfl, hc1, hc2⟩ := hvh.shape
  obtain ⟨n, hn⟩ : ∃ n, n = hs.length := ⟨_, rfl⟩
  rw [← hn] at hvh hc1 ⊢
  have hcap' : hcap ≤ 9223372036854775807 := hc2
  have HW0 := Lib.hid (Own.start w)
  have hV : ∀ R', ReadsE w R' (.slice had n hcap) hs := fun R' => hvh.reads
  have hM : ∀ R', Reads w R' vm many := fun R' => hvm.reads
  have hbc := befErr_cases hs i k
  have hpc := pastErr_cases hs i
  have hce := cutErr_E hs many
  obtain ⟨A, hA⟩ : ∃ A, A = (histR hs).1 := ⟨_, rfl⟩
  obtain ⟨E, hE⟩ : ∃ E, E = (histR hs).2 := ⟨_, rfl⟩
  obtain ⟨F, hF⟩ : ∃ F, F = befErr hs i k := ⟨_, rfl⟩
  obtain ⟨G, hGq⟩ : ∃ G, G = pastErr hs i := ⟨_, rfl⟩
  obtain ⟨B, hB⟩ : ∃ B, B = befB hs i k := ⟨_, rfl⟩
  obtain ⟨L, hL⟩ : ∃ L, L = pastE hs i := ⟨_, rfl⟩
  obtain ⟨X, hX⟩ : ∃ X, X = cutErr hs many := ⟨_, rfl⟩
  obtain ⟨Y, hY⟩ : ∃ Y, Y = cutOk hs many := ⟨_, rfl⟩
  have hEl := histR_err_le hs
  have hLI : ∀ x ∈ L, I64 x := by
    rw [hL]
    unfold pastE
    by_cases h0 : pastErr hs i = 0
    · rw [if_pos h0]
      refine pastL_I64 ?_
      rcases pastErr_cases hs i with ⟨h1, h2⟩ | ⟨_, _, h2⟩ | ⟨h1, _⟩
      · rw [h2] at h0; exact absurd h0 h1
      · rw [h2] at h0; cases h0
      · exact ((histR_ok hs).1 h1).1
    · rw [if_neg h0]; intro x hx; cases hx
  rw [← hE, ← hF, ← hn] at hbc
  rw [← hE, ← hGq, ← hn] at hpc
  rw [← hE, ← hX] at hce
  rw [← hE] at hEl
  have hGl : G ≤ 1000 := by omega
  obtain ⟨P0, hP0⟩ : ∃ P, P = decide (E = 0) := ⟨_, rfl⟩
  obtain ⟨P1, hP1⟩ : ∃ P, P = decide (F = 0) := ⟨_, rfl⟩
  have t0 : ((E : Int) == 0) = P0 := by rw [beq_zero_nat, hP0]
  have t1 : ((F : Int) == 0) = P1 := by rw [beq_zero_nat, hP1]
  have tE := ht_same E
  have tF := ht_same F
  have tG := ht_same G
  have tX := ht_same X
  have HLN := Lib.hid hn.symm
  clear hn
  have HG := Lib.hid hg; have HVH := Lib.hid hvh; have HVM := Lib.hid hvm; have HV := Lib.hid hV; have HM := Lib.hid hM; have HA := Lib.hid hA; have HE := Lib.hid hE; have HF := Lib.hid hF; have HGQ := Lib.hid hGq; have HB := Lib.hid hB; have HL := Lib.hid hL; have HX := Lib.hid hX; have HY := Lib.hid hY; have HBC := Lib.hid hbc; have HPC := Lib.hid hpc; have HCE := Lib.hid hce; have HP0 := Lib.hid hP0; have HP1 := Lib.hid hP1; have HLI := Lib.hid hLI; have HEL := Lib.hid hEl; have HGL := Lib.hid hGl
  clear hg hvh hvm hV hM hA hE hF hGq hB hL hX hY hbc hpc hce hP0 hP1 hLI hEl hGl
  go_enter Tryd.func4, Tryd.ntmps4
  go_wp2_with fail
  refine (refHistory_any _ hs HW0.out (HV.out _)).mono ?_
  rintro e w1 ⟨rfl, ho⟩
  rw [← HA.out, ← HE.out]
  have HO1 := Lib.hid ho
  clear ho
  go_wp2_with fail
  refine (hCheck_any _ hs HO1.out (HV.out _)).mono ?_
  rintro e w2 ⟨rfl, ho⟩
  rw [← HA.out, ← HE.out]
  have HO2 := Lib.hid ho
  clear ho HO1
  go_wp2_with fail
  refine (sameErr_any HG.out E E HO2.out).mono ?_
  rintro e w3 ⟨rfl, ho⟩
  rw [tE]
  have HO3 := Lib.hid ho
  clear ho HO2
  obtain ⟨C, hC⟩ : ∃ C, C = (P0 && !P1) := ⟨_, rfl⟩
  have HC := Lib.hid hC
  clear hC
  go_upto_region 5 with fail
  go_cut [65] (fun c wx => c = .bool C ∧ wx = w3)
  case first =>
    rcases HBC.out with ⟨h1, _⟩ | ⟨h1, h2, h3⟩ | ⟨h1, ⟨h2, h3, h4, h5⟩, h6⟩
    · have hp : P0 = false := by rw [HP0.out]; simp [h1]
      have hc : C = false := by rw [HC.out, hp]; rfl
      subst hp
      have H1 := Lib.hid h1; have HC := Lib.hid hc
      clear h1 hc
      go_wp2_with fail
      go_meet
      exact ⟨by rw [HC.out], rfl⟩
    · have hp : P0 = true := by rw [HP0.out]; simp [h1]
      have hc : C = true := by rw [HC.out, hp, HP1.out, h3]; rfl
      have hcs : i < 0 ∨ (¬ i < 0 ∧ (n : Int) ≤ i) ∨ (¬ i < 0 ∧ ¬ (n : Int) ≤ i ∧ k < 0) ∨ (¬ i < 0 ∧ ¬ (n : Int) ≤ i ∧ ¬ k < 0 ∧ (n : Int) ≤ k) := by omega
      subst hp
      clear h2
      have H1 := Lib.hid h1; have HC := Lib.hid hc; have H3 := Lib.hid h3
      clear h1 hc h3
      rcases hcs with h1 | ⟨h1, h2⟩ | ⟨h1, h2, h4⟩ | ⟨h1, h2, h4, h5⟩
      all_goals
        go_wp2_with fail
        go_meet
        exact ⟨by rw [HC.out], rfl⟩
    · have hp : P0 = true := by rw [HP0.out]; simp [h1]
      have hc : C = false := by rw [HC.out, hp, HP1.out, h6]; rfl
      have n1 : ¬ i < 0 := by omega
      have n2 : ¬ (n : Int) ≤ i := by omega
      have n3 : ¬ k < 0 := by omega
      have n4 : ¬ (n : Int) ≤ k := by omega
      subst hp
      have H1 := Lib.hid h1; have HC := Lib.hid hc; have H6 := Lib.hid h6
      clear h1 hc h6
      go_wp2_with fail
      go_meet
      exact ⟨by rw [HC.out], rfl⟩
  case rest =>
  obtain ⟨rfl, rfl⟩ := hcut
  go_upto_if 65 with fail
  go_cut [14] (fun f wx => f = .int .i64 (F : Int) ∧ wx = wc)
  case first =>
    cases C
    · have h1 : F = E := by
        have h2 := HC.out
        rcases HBC.out with ⟨h1, h3⟩ | ⟨h1, _, h3⟩ | ⟨h1, _, h3⟩
        · exact h3
        · rw [HP0.out, HP1.out, h1, h3] at h2; cases h2
        · rw [h1, h3]
      have H1 := Lib.hid h1
      clear h1
      go_wp2_with fail
      go_meet
      exact ⟨by rw [H1.out], rfl⟩
    · have h1 : F = 1 := by
        have h2 := HC.out
        rcases HBC.out with ⟨h1, h3⟩ | ⟨h1, _, h3⟩ | ⟨h1, _, h3⟩
        · rw [HP0.out, decide_eq_false h1] at h2; cases h2
        · exact h3
        · rw [HP0.out, HP1.out, h1, h3] at h2; cases h2
      have H1 := Lib.hid h1
      clear h1
      go_wp2_with fail
      go_meet
      exact ⟨by rw [H1.out]; rfl, rfl⟩
  case rest =>
  obtain ⟨rfl, rfl⟩ := hcut
  go_upto_if 67 with fail
  go_cut [15] (fun v wx => v = .bool B ∧ Own w emp wx)
  case first =>
    refine htWant w emp n hcap had hs i k P1 HLN (Lib.hid (by rw [HP1.out, HF.out])) hc1 hcap' (Lib.hid (HV.out _)) HO3 ?_
    intros
    go_step
    go_step
    go_meet
    rw [HB.out]
    assumption
  case rest =>
  obtain ⟨rfl, ho⟩ := hcut
  have HO4 := Lib.hid ho
  clear ho HO3
  go_wp2_with fail
  refine (hBefore_any _ hs i k hi hk HO4.out (HV.out _)).mono ?_
  rintro e w5 ⟨rfl, ho⟩
  rw [← HB.out, ← HF.out]
  have HO5 := Lib.hid ho
  clear ho HO4
  go_wp2_with fail
  refine (sameErr_any HG.out F F HO5.out).mono ?_
  rintro e w6 ⟨rfl, ho⟩
  rw [tF]
  have HO6 := Lib.hid ho
  clear ho HO5
  obtain ⟨D, hD⟩ : ∃ D, D = (P0 && !decide (G = 0)) := ⟨_, rfl⟩
  have HD := Lib.hid hD
  clear hD
  go_upto_region 14 with fail
  go_cut [102] (fun c wx => c = .bool D ∧ wx = w6)
  case first =>
    rcases HPC.out with ⟨h1, _⟩ | ⟨h1, h2, h3⟩ | ⟨h1, ⟨h2, h3⟩, h6⟩
    · have hp : P0 = false := by rw [HP0.out]; simp [h1]
      have hc : D = false := by rw [HD.out, hp]; rfl
      subst hp
      have H1 := Lib.hid h1; have HC := Lib.hid hc
      clear h1 hc
      go_wp2_with fail
      go_meet
      exact ⟨by rw [HC.out], rfl⟩
    · have hp : P0 = true := by rw [HP0.out]; simp [h1]
      have hc : D = true := by rw [HD.out, hp, h3]; rfl
      have hcs : i < 0 ∨ (¬ i < 0 ∧ (n : Int) ≤ i) := by omega
      subst hp
      clear h2
      have H1 := Lib.hid h1; have HC := Lib.hid hc; have H3 := Lib.hid h3
      clear h1 hc h3
      rcases hcs with h1 | ⟨h1, h2⟩
      all_goals
        go_wp2_with fail
        go_meet
        exact ⟨by rw [HC.out], rfl⟩
    · have hp : P0 = true := by rw [HP0.out]; simp [h1]
      have hc : D = false := by rw [HD.out, hp, h6]; rfl
      have n1 : ¬ i < 0 := by omega
      have n2 : ¬ (n : Int) ≤ i := by omega
      subst hp
      have H1 := Lib.hid h1; have HC := Lib.hid hc; have H6 := Lib.hid h6
      clear h1 hc h6
      go_wp2_with fail
      go_meet
      exact ⟨by rw [HC.out], rfl⟩
  case rest =>
  obtain ⟨rfl, rfl⟩ := hcut
  go_upto_if 102 with fail
  go_cut [14] (fun f wx => f = .int .i64 (G : Int) ∧ wx = wc)
  case first =>
    cases D
    · have h1 : G = E := by
        have h2 := HD.out
        rcases HPC.out with ⟨h1, h3⟩ | ⟨h1, _, h3⟩ | ⟨h1, _, h3⟩
        · exact h3
        · rw [HP0.out, h1, h3] at h2; cases h2
        · rw [h1, h3]
      have H1 := Lib.hid h1
      clear h1
      go_wp2_with fail
      go_meet
      exact ⟨by rw [H1.out], rfl⟩
    · have h1 : G = 1 := by
        have h2 := HD.out
        rcases HPC.out with ⟨h1, h3⟩ | ⟨h1, _, h3⟩ | ⟨h1, _, h3⟩
        · rw [HP0.out, decide_eq_false h1] at h2; cases h2
        · exact h3
        · rw [HP0.out, h1, h3] at h2; cases h2
      have H1 := Lib.hid h1
      clear h1
      go_wp2_with fail
      go_meet
      exact ⟨by rw [H1.out]; rfl, rfl⟩
  case rest =>
  obtain ⟨rfl, rfl⟩ := hcut
  go_upto_block 0 with fail
  go_cut [19] (fun v wx => Own w (IntSl v L * emp) wx)
  case first =>
    refine htPast w emp n hcap had hs i G (Lib.hid HGQ.out) HLN hc1 hcap' HGL.out (Lib.hid (HV.out _)) HO6 ?_
    intros
    go_step
    go_step
    go_meet
    rw [HL.out]
    assumption
  case rest =>
  have HO7 := Lib.hid hcut
  clear hcut HO6
  go_wp2_with fail
  refine (hPast_any _ hs i hi HO7.out (HV.out _)).mono ?_
  rintro e w8 ⟨v8, rfl, ho⟩
  rw [← HGQ.out]
  rw [← HL.out] at ho
  have HO8 := Lib.hid ho
  clear ho HO7
  go_wp2_with fail
  refine (sameErr_any HG.out G G HO8.out).mono ?_
  rintro e w9 ⟨rfl, ho⟩
  rw [tG]
  have HO9 := Lib.hid ho
  clear ho HO8
  go_wp2_with fail
  refine (sameInts_any v8 u19 L L _ (IntSl_reads HLI.out _ HO9.out) ((IntSl_reads HLI.out).more _ HO9.out)).mono ?_
  rintro e w10 ⟨rfl, nq, rfl⟩
  rw [show (L == L) = true from beq_iff_eq.2 rfl]
  have HO10 := Lib.hid (HO9.out.drewN nq).drop.drop
  clear HO9
  go_upto_if 139 with fail
  go_cut [15, 10] (fun v f wx => v = .bool Y ∧ f = .int .i64 (X : Int) ∧ Own w emp wx)
  case first =>
    cases P0
    · have h0 : E ≠ 0 := by have := HP0.out; intro h; rw [h] at this; cases this
      have hx : X = E := by rw [HCE.out, if_pos h0]
      have hy : Y = false := by rw [HY.out]; unfold cutOk; rw [← HX.out, hx, decide_eq_false h0]; rfl
      have H0 := Lib.hid h0; have HX := Lib.hid hx; have HY := Lib.hid hy
      clear h0 hx hy
      go_wp2_with fail
      go_meet
      exact ⟨by rw [HY.out], by rw [HX.out], HO10.out⟩
    · have h0 : E = 0 := by have := HP0.out; simpa using this.symm
      have hrt : RightH hs := (histR_ok hs).1 (by rw [← HE.out]; exact h0)
      have hx : X = refCutE hs many := by rw [HCE.out, if_neg (by simpa using h0)]
      have hy : Y = refCutB hs many := by rw [HY.out]; unfold cutOk refCutB; rw [← HX.out, hx]
      have HXX := Lib.hid hx
      have HYY := Lib.hid hy
      clear hx hy
      have H0 := Lib.hid h0; have HRT := Lib.hid hrt
      clear h0 hrt
      go_wp2_with fail
      refine (refCut_any _ vm hs many HO10.out (HV.out _) (HM.out _) HRT.out).mono ?_
      rintro e w11 ⟨rfl, ho⟩
      rw [← HXX.out, ← HYY.out]
      have HO11 := Lib.hid ho
      clear ho
      go_wp2_with fail
      go_meet
      exact ⟨rfl, rfl, HO11.out⟩
  case rest =>
  obtain ⟨rfl, rfl, ho⟩ := hcut
  have HO11 := Lib.hid ho
  clear ho HO10
  go_wp2_with fail
  refine (hCut_any _ vm hs many HO11.out (HV.out _) (HM.out _)).mono ?_
  rintro e w12 ⟨rfl, ho⟩
  rw [← HX.out, ← HY.out]
  have HO12 := Lib.hid ho
  clear ho HO11
  go_wp2_with fail
  refine (sameErr_any HG.out X X HO12.out).mono ?_
  rintro e w13 ⟨rfl, ho⟩
  rw [tX]
  have HO13 := Lib.hid ho
  clear ho HO12
  go_wp2
  go_ret
  exact ⟨rfl, HO13.out.below⟩
end Go.Proofs.YtgjjilehpgnjhaaDoor
/- Closed facts on the program as a whole, each asked once for all statements of the seat. -/
namespace Go.Proofs.YtgjjilehpgnjhaaDoor.facts
set_option linter.unusedVariables false
set_option linter.unusedSimpArgs false
open Go.ChangeShapes Go.WideShapes Go.ChangeAt
theorem words_step (w r : List Char) (h : w.all (fun c => c != Char.ofNat 32) = true) : wordsSigns (w ++ Char.ofNat 32 :: r) = w :: wordsSigns r := by
  induction w with
  | nil => rfl
  | cons c w ih =>
    simp only [List.all_cons, Bool.and_eq_true, bne_iff_ne, ne_eq] at h
    rw [List.cons_append]
    have e : wordsSigns (c :: (w ++ Char.ofNat 32 :: r)) = match wordsSigns (w ++ Char.ofNat 32 :: r) with | x :: xs => (c :: x) :: xs | [] => [[c]] := by
      conv => lhs; unfold wordsSigns
      split
      · rename_i h1; cases h1
      · rename_i h1; injection h1 with h2 _; exact absurd h2 h.1
      · rename_i h1; injection h1 with h2 h3; subst h2 h3; rfl
    rw [e, ih (by simpa using h.2)]
theorem make_of (P : Program) (c : List Char) (rest : List (List Char)) (h : behindMainWord (wordsSigns P.initOrder.toList) = c :: rest) : P.make =
  if c == "gc".toList || c == "spec".toList then some .whole else if c == "cut".toList || (c == "finals".toList && rest.head? == some "cut".toList) then some .cut else if c == "carried".toList then some .carried else if P.headLifts.isEmpty then none else some (.lifted P.headLifts) := by
  unfold Program.make
  rw [h]
theorem mayEnter_of (P : Program) (c : List Char) (rest : List (List Char)) (h : behindMainWord (wordsSigns P.initOrder.toList) = c :: rest) : P.mayEnter = (
    ((c == "gc".toList || c == "spec".toList) && (rest.isEmpty || rest.head? == some "stop".toList)) ||
    (c == "carried".toList && rest.take 2 == ["gc".toList, "cut".toList] && !P.laysLater && !P.bearsReflect) ||
    ((stripLifts liftWords (c :: rest)).2.head? == some "cut".toList &&
      ((stripLifts liftWords (c :: rest)).1.contains "finals" || !P.laysLater) && ((stripLifts liftWords (c :: rest)).1.contains "reflectrows" || !P.bearsReflect) &&
      ((stripLifts liftWords (c :: rest)).1.contains "reflectrows" || !(stripLifts liftWords (c :: rest)).1.contains "leanrows") &&
      P.doorFits (stripLifts liftWords (c :: rest)).1)) := by
  unfold Program.mayEnter
  rw [h]
def hw0 : List Char := [Char.ofNat 104, Char.ofNat 97, Char.ofNat 114, Char.ofNat 110, Char.ofNat 101, Char.ofNat 115, Char.ofNat 115]
def hw1 : List Char := [Char.ofNat 101, Char.ofNat 54, Char.ofNat 97, Char.ofNat 51, Char.ofNat 97, Char.ofNat 51, Char.ofNat 56, Char.ofNat 100, Char.ofNat 52, Char.ofNat 50, Char.ofNat 101, Char.ofNat 53, Char.ofNat 52, Char.ofNat 48, Char.ofNat 51, Char.ofNat 98, Char.ofNat 53, Char.ofNat 99, Char.ofNat 49, Char.ofNat 50, Char.ofNat 55, Char.ofNat 56, Char.ofNat 102, Char.ofNat 56, Char.ofNat 98, Char.ofNat 102, Char.ofNat 55, Char.ofNat 97, Char.ofNat 100, Char.ofNat 56, Char.ofNat 102, Char.ofNat 51, Char.ofNat 54, Char.ofNat 100, Char.ofNat 56, Char.ofNat 52, Char.ofNat 48, Char.ofNat 53, Char.ofNat 53, Char.ofNat 98, Char.ofNat 100, Char.ofNat 99, Char.ofNat 55, Char.ofNat 55, Char.ofNat 101, Char.ofNat 55, Char.ofNat 100, Char.ofNat 97, Char.ofNat 51, Char.ofNat 57, Char.ofNat 52, Char.ofNat 99, Char.ofNat 97, Char.ofNat 52, Char.ofNat 53, Char.ofNat 56, Char.ofNat 49, Char.ofNat 54, Char.ofNat 100, Char.ofNat 100, Char.ofNat 57, Char.ofNat 48, Char.ofNat 52, Char.ofNat 48]
def hw2 : List Char := [Char.ofNat 99, Char.ofNat 117, Char.ofNat 116]
def hrest : List Char := [Char.ofNat 97, Char.ofNat 116, Char.ofNat 32, Char.ofNat 109, Char.ofNat 111, Char.ofNat 111, Char.ofNat 116, Char.ofNat 98, Char.ofNat 101, Char.ofNat 108, Char.ofNat 108, Char.ofNat 47, Char.ofNat 109, Char.ofNat 111, Char.ofNat 111, Char.ofNat 116, Char.ofNat 108, Char.ofNat 97, Char.ofNat 119, Char.ofNat 52, Char.ofNat 46, Char.ofNat 72, Char.ofNat 105, Char.ofNat 115, Char.ofNat 116, Char.ofNat 111, Char.ofNat 114, Char.ofNat 121, Char.ofNat 65, Char.ofNat 100, Char.ofNat 100, Char.ofNat 115, Char.ofNat 32, Char.ofNat 109, Char.ofNat 111, Char.ofNat 111, Char.ofNat 116, Char.ofNat 98, Char.ofNat 101, Char.ofNat 108, Char.ofNat 108, Char.ofNat 47, Char.ofNat 109, Char.ofNat 111, Char.ofNat 111, Char.ofNat 116, Char.ofNat 108, Char.ofNat 97, Char.ofNat 119, Char.ofNat 49, Char.ofNat 46, Char.ofNat 72, Char.ofNat 105, Char.ofNat 115, Char.ofNat 116, Char.ofNat 111, Char.ofNat 114, Char.ofNat 121, Char.ofNat 84, Char.ofNat 101, Char.ofNat 108, Char.ofNat 108, Char.ofNat 115, Char.ofNat 32, Char.ofNat 109, Char.ofNat 111, Char.ofNat 111, Char.ofNat 116, Char.ofNat 98, Char.ofNat 101, Char.ofNat 108, Char.ofNat 108, Char.ofNat 47, Char.ofNat 109, Char.ofNat 111, Char.ofNat 111, Char.ofNat 116, Char.ofNat 108, Char.ofNat 97, Char.ofNat 119, Char.ofNat 49, Char.ofNat 46, Char.ofNat 67, Char.ofNat 108, Char.ofNat 111, Char.ofNat 99, Char.ofNat 107, Char.ofNat 84, Char.ofNat 101, Char.ofNat 108, Char.ofNat 108, Char.ofNat 115, Char.ofNat 32, Char.ofNat 109, Char.ofNat 111, Char.ofNat 111, Char.ofNat 116, Char.ofNat 98, Char.ofNat 101, Char.ofNat 108, Char.ofNat 108, Char.ofNat 47, Char.ofNat 109, Char.ofNat 111, Char.ofNat 111, Char.ofNat 116, Char.ofNat 108, Char.ofNat 97, Char.ofNat 119, Char.ofNat 49, Char.ofNat 46, Char.ofNat 70, Char.ofNat 97, Char.ofNat 99, Char.ofNat 101, Char.ofNat 115, Char.ofNat 84, Char.ofNat 101, Char.ofNat 108, Char.ofNat 108, Char.ofNat 32, Char.ofNat 109, Char.ofNat 111, Char.ofNat 111, Char.ofNat 116, Char.ofNat 98, Char.ofNat 101, Char.ofNat 108, Char.ofNat 108, Char.ofNat 47, Char.ofNat 109, Char.ofNat 111, Char.ofNat 111, Char.ofNat 116, Char.ofNat 108, Char.ofNat 97, Char.ofNat 119, Char.ofNat 52, Char.ofNat 46, Char.ofNat 76, Char.ofNat 111, Char.ofNat 103, Char.ofNat 82, Char.ofNat 101, Char.ofNat 102, Char.ofNat 117, Char.ofNat 115, Char.ofNat 101, Char.ofNat 115, Char.ofNat 32, Char.ofNat 109, Char.ofNat 111, Char.ofNat 111, Char.ofNat 116, Char.ofNat 98, Char.ofNat 101, Char.ofNat 108, Char.ofNat 108, Char.ofNat 47, Char.ofNat 109, Char.ofNat 111, Char.ofNat 111, Char.ofNat 116, Char.ofNat 108, Char.ofNat 97, Char.ofNat 119, Char.ofNat 51, Char.ofNat 46, Char.ofNat 76, Char.ofNat 111, Char.ofNat 103, Char.ofNat 83, Char.ofNat 116, Char.ofNat 111, Char.ofNat 112, Char.ofNat 115, Char.ofNat 32, Char.ofNat 109, Char.ofNat 111, Char.ofNat 111, Char.ofNat 116, Char.ofNat 98, Char.ofNat 101, Char.ofNat 108, Char.ofNat 108, Char.ofNat 47, Char.ofNat 109, Char.ofNat 111, Char.ofNat 111, Char.ofNat 116, Char.ofNat 108, Char.ofNat 97, Char.ofNat 119, Char.ofNat 51, Char.ofNat 46, Char.ofNat 76, Char.ofNat 111, Char.ofNat 103, Char.ofNat 75, Char.ofNat 101, Char.ofNat 101, Char.ofNat 112, Char.ofNat 115]
set_option maxRecDepth 100000 in
theorem init_lit : Tryd.prog.initOrder = String.ofList [Char.ofNat 104, Char.ofNat 97, Char.ofNat 114, Char.ofNat 110, Char.ofNat 101, Char.ofNat 115, Char.ofNat 115, Char.ofNat 32, Char.ofNat 101, Char.ofNat 54, Char.ofNat 97, Char.ofNat 51, Char.ofNat 97, Char.ofNat 51, Char.ofNat 56, Char.ofNat 100, Char.ofNat 52, Char.ofNat 50, Char.ofNat 101, Char.ofNat 53, Char.ofNat 52, Char.ofNat 48, Char.ofNat 51, Char.ofNat 98, Char.ofNat 53, Char.ofNat 99, Char.ofNat 49, Char.ofNat 50, Char.ofNat 55, Char.ofNat 56, Char.ofNat 102, Char.ofNat 56, Char.ofNat 98, Char.ofNat 102, Char.ofNat 55, Char.ofNat 97, Char.ofNat 100, Char.ofNat 56, Char.ofNat 102, Char.ofNat 51, Char.ofNat 54, Char.ofNat 100, Char.ofNat 56, Char.ofNat 52, Char.ofNat 48, Char.ofNat 53, Char.ofNat 53, Char.ofNat 98, Char.ofNat 100, Char.ofNat 99, Char.ofNat 55, Char.ofNat 55, Char.ofNat 101, Char.ofNat 55, Char.ofNat 100, Char.ofNat 97, Char.ofNat 51, Char.ofNat 57, Char.ofNat 52, Char.ofNat 99, Char.ofNat 97, Char.ofNat 52, Char.ofNat 53, Char.ofNat 56, Char.ofNat 49, Char.ofNat 54, Char.ofNat 100, Char.ofNat 100, Char.ofNat 57, Char.ofNat 48, Char.ofNat 52, Char.ofNat 48, Char.ofNat 32, Char.ofNat 99, Char.ofNat 117, Char.ofNat 116, Char.ofNat 32, Char.ofNat 97, Char.ofNat 116, Char.ofNat 32, Char.ofNat 109, Char.ofNat 111, Char.ofNat 111, Char.ofNat 116, Char.ofNat 98, Char.ofNat 101, Char.ofNat 108, Char.ofNat 108, Char.ofNat 47, Char.ofNat 109, Char.ofNat 111, Char.ofNat 111, Char.ofNat 116, Char.ofNat 108, Char.ofNat 97, Char.ofNat 119, Char.ofNat 52, Char.ofNat 46, Char.ofNat 72, Char.ofNat 105, Char.ofNat 115, Char.ofNat 116, Char.ofNat 111, Char.ofNat 114, Char.ofNat 121, Char.ofNat 65, Char.ofNat 100, Char.ofNat 100, Char.ofNat 115, Char.ofNat 32, Char.ofNat 109, Char.ofNat 111, Char.ofNat 111, Char.ofNat 116, Char.ofNat 98, Char.ofNat 101, Char.ofNat 108, Char.ofNat 108, Char.ofNat 47, Char.ofNat 109, Char.ofNat 111, Char.ofNat 111, Char.ofNat 116, Char.ofNat 108, Char.ofNat 97, Char.ofNat 119, Char.ofNat 49, Char.ofNat 46, Char.ofNat 72, Char.ofNat 105, Char.ofNat 115, Char.ofNat 116, Char.ofNat 111, Char.ofNat 114, Char.ofNat 121, Char.ofNat 84, Char.ofNat 101, Char.ofNat 108, Char.ofNat 108, Char.ofNat 115, Char.ofNat 32, Char.ofNat 109, Char.ofNat 111, Char.ofNat 111, Char.ofNat 116, Char.ofNat 98, Char.ofNat 101, Char.ofNat 108, Char.ofNat 108, Char.ofNat 47, Char.ofNat 109, Char.ofNat 111, Char.ofNat 111, Char.ofNat 116, Char.ofNat 108, Char.ofNat 97, Char.ofNat 119, Char.ofNat 49, Char.ofNat 46, Char.ofNat 67, Char.ofNat 108, Char.ofNat 111, Char.ofNat 99, Char.ofNat 107, Char.ofNat 84, Char.ofNat 101, Char.ofNat 108, Char.ofNat 108, Char.ofNat 115, Char.ofNat 32, Char.ofNat 109, Char.ofNat 111, Char.ofNat 111, Char.ofNat 116, Char.ofNat 98, Char.ofNat 101, Char.ofNat 108, Char.ofNat 108, Char.ofNat 47, Char.ofNat 109, Char.ofNat 111, Char.ofNat 111, Char.ofNat 116, Char.ofNat 108, Char.ofNat 97, Char.ofNat 119, Char.ofNat 49, Char.ofNat 46, Char.ofNat 70, Char.ofNat 97, Char.ofNat 99, Char.ofNat 101, Char.ofNat 115, Char.ofNat 84, Char.ofNat 101, Char.ofNat 108, Char.ofNat 108, Char.ofNat 32, Char.ofNat 109, Char.ofNat 111, Char.ofNat 111, Char.ofNat 116, Char.ofNat 98, Char.ofNat 101, Char.ofNat 108, Char.ofNat 108, Char.ofNat 47, Char.ofNat 109, Char.ofNat 111, Char.ofNat 111, Char.ofNat 116, Char.ofNat 108, Char.ofNat 97, Char.ofNat 119, Char.ofNat 52, Char.ofNat 46, Char.ofNat 76, Char.ofNat 111, Char.ofNat 103, Char.ofNat 82, Char.ofNat 101, Char.ofNat 102, Char.ofNat 117, Char.ofNat 115, Char.ofNat 101, Char.ofNat 115, Char.ofNat 32, Char.ofNat 109, Char.ofNat 111, Char.ofNat 111, Char.ofNat 116, Char.ofNat 98, Char.ofNat 101, Char.ofNat 108, Char.ofNat 108, Char.ofNat 47, Char.ofNat 109, Char.ofNat 111, Char.ofNat 111, Char.ofNat 116, Char.ofNat 108, Char.ofNat 97, Char.ofNat 119, Char.ofNat 51, Char.ofNat 46, Char.ofNat 76, Char.ofNat 111, Char.ofNat 103, Char.ofNat 83, Char.ofNat 116, Char.ofNat 111, Char.ofNat 112, Char.ofNat 115, Char.ofNat 32, Char.ofNat 109, Char.ofNat 111, Char.ofNat 111, Char.ofNat 116, Char.ofNat 98, Char.ofNat 101, Char.ofNat 108, Char.ofNat 108, Char.ofNat 47, Char.ofNat 109, Char.ofNat 111, Char.ofNat 111, Char.ofNat 116, Char.ofNat 108, Char.ofNat 97, Char.ofNat 119, Char.ofNat 51, Char.ofNat 46, Char.ofNat 76, Char.ofNat 111, Char.ofNat 103, Char.ofNat 75, Char.ofNat 101, Char.ofNat 101, Char.ofNat 112, Char.ofNat 115] := by kernel_rfl
set_option maxRecDepth 100000 in
theorem init_chars : Tryd.prog.initOrder.toList = [Char.ofNat 104, Char.ofNat 97, Char.ofNat 114, Char.ofNat 110, Char.ofNat 101, Char.ofNat 115, Char.ofNat 115, Char.ofNat 32, Char.ofNat 101, Char.ofNat 54, Char.ofNat 97, Char.ofNat 51, Char.ofNat 97, Char.ofNat 51, Char.ofNat 56, Char.ofNat 100, Char.ofNat 52, Char.ofNat 50, Char.ofNat 101, Char.ofNat 53, Char.ofNat 52, Char.ofNat 48, Char.ofNat 51, Char.ofNat 98, Char.ofNat 53, Char.ofNat 99, Char.ofNat 49, Char.ofNat 50, Char.ofNat 55, Char.ofNat 56, Char.ofNat 102, Char.ofNat 56, Char.ofNat 98, Char.ofNat 102, Char.ofNat 55, Char.ofNat 97, Char.ofNat 100, Char.ofNat 56, Char.ofNat 102, Char.ofNat 51, Char.ofNat 54, Char.ofNat 100, Char.ofNat 56, Char.ofNat 52, Char.ofNat 48, Char.ofNat 53, Char.ofNat 53, Char.ofNat 98, Char.ofNat 100, Char.ofNat 99, Char.ofNat 55, Char.ofNat 55, Char.ofNat 101, Char.ofNat 55, Char.ofNat 100, Char.ofNat 97, Char.ofNat 51, Char.ofNat 57, Char.ofNat 52, Char.ofNat 99, Char.ofNat 97, Char.ofNat 52, Char.ofNat 53, Char.ofNat 56, Char.ofNat 49, Char.ofNat 54, Char.ofNat 100, Char.ofNat 100, Char.ofNat 57, Char.ofNat 48, Char.ofNat 52, Char.ofNat 48, Char.ofNat 32, Char.ofNat 99, Char.ofNat 117, Char.ofNat 116, Char.ofNat 32, Char.ofNat 97, Char.ofNat 116, Char.ofNat 32, Char.ofNat 109, Char.ofNat 111, Char.ofNat 111, Char.ofNat 116, Char.ofNat 98, Char.ofNat 101, Char.ofNat 108, Char.ofNat 108, Char.ofNat 47, Char.ofNat 109, Char.ofNat 111, Char.ofNat 111, Char.ofNat 116, Char.ofNat 108, Char.ofNat 97, Char.ofNat 119, Char.ofNat 52, Char.ofNat 46, Char.ofNat 72, Char.ofNat 105, Char.ofNat 115, Char.ofNat 116, Char.ofNat 111, Char.ofNat 114, Char.ofNat 121, Char.ofNat 65, Char.ofNat 100, Char.ofNat 100, Char.ofNat 115, Char.ofNat 32, Char.ofNat 109, Char.ofNat 111, Char.ofNat 111, Char.ofNat 116, Char.ofNat 98, Char.ofNat 101, Char.ofNat 108, Char.ofNat 108, Char.ofNat 47, Char.ofNat 109, Char.ofNat 111, Char.ofNat 111, Char.ofNat 116, Char.ofNat 108, Char.ofNat 97, Char.ofNat 119, Char.ofNat 49, Char.ofNat 46, Char.ofNat 72, Char.ofNat 105, Char.ofNat 115, Char.ofNat 116, Char.ofNat 111, Char.ofNat 114, Char.ofNat 121, Char.ofNat 84, Char.ofNat 101, Char.ofNat 108, Char.ofNat 108, Char.ofNat 115, Char.ofNat 32, Char.ofNat 109, Char.ofNat 111, Char.ofNat 111, Char.ofNat 116, Char.ofNat 98, Char.ofNat 101, Char.ofNat 108, Char.ofNat 108, Char.ofNat 47, Char.ofNat 109, Char.ofNat 111, Char.ofNat 111, Char.ofNat 116, Char.ofNat 108, Char.ofNat 97, Char.ofNat 119, Char.ofNat 49, Char.ofNat 46, Char.ofNat 67, Char.ofNat 108, Char.ofNat 111, Char.ofNat 99, Char.ofNat 107, Char.ofNat 84, Char.ofNat 101, Char.ofNat 108, Char.ofNat 108, Char.ofNat 115, Char.ofNat 32, Char.ofNat 109, Char.ofNat 111, Char.ofNat 111, Char.ofNat 116, Char.ofNat 98, Char.ofNat 101, Char.ofNat 108, Char.ofNat 108, Char.ofNat 47, Char.ofNat 109, Char.ofNat 111, Char.ofNat 111, Char.ofNat 116, Char.ofNat 108, Char.ofNat 97, Char.ofNat 119, Char.ofNat 49, Char.ofNat 46, Char.ofNat 70, Char.ofNat 97, Char.ofNat 99, Char.ofNat 101, Char.ofNat 115, Char.ofNat 84, Char.ofNat 101, Char.ofNat 108, Char.ofNat 108, Char.ofNat 32, Char.ofNat 109, Char.ofNat 111, Char.ofNat 111, Char.ofNat 116, Char.ofNat 98, Char.ofNat 101, Char.ofNat 108, Char.ofNat 108, Char.ofNat 47, Char.ofNat 109, Char.ofNat 111, Char.ofNat 111, Char.ofNat 116, Char.ofNat 108, Char.ofNat 97, Char.ofNat 119, Char.ofNat 52, Char.ofNat 46, Char.ofNat 76, Char.ofNat 111, Char.ofNat 103, Char.ofNat 82, Char.ofNat 101, Char.ofNat 102, Char.ofNat 117, Char.ofNat 115, Char.ofNat 101, Char.ofNat 115, Char.ofNat 32, Char.ofNat 109, Char.ofNat 111, Char.ofNat 111, Char.ofNat 116, Char.ofNat 98, Char.ofNat 101, Char.ofNat 108, Char.ofNat 108, Char.ofNat 47, Char.ofNat 109, Char.ofNat 111, Char.ofNat 111, Char.ofNat 116, Char.ofNat 108, Char.ofNat 97, Char.ofNat 119, Char.ofNat 51, Char.ofNat 46, Char.ofNat 76, Char.ofNat 111, Char.ofNat 103, Char.ofNat 83, Char.ofNat 116, Char.ofNat 111, Char.ofNat 112, Char.ofNat 115, Char.ofNat 32, Char.ofNat 109, Char.ofNat 111, Char.ofNat 111, Char.ofNat 116, Char.ofNat 98, Char.ofNat 101, Char.ofNat 108, Char.ofNat 108, Char.ofNat 47, Char.ofNat 109, Char.ofNat 111, Char.ofNat 111, Char.ofNat 116, Char.ofNat 108, Char.ofNat 97, Char.ofNat 119, Char.ofNat 51, Char.ofNat 46, Char.ofNat 76, Char.ofNat 111, Char.ofNat 103, Char.ofNat 75, Char.ofNat 101, Char.ofNat 101, Char.ofNat 112, Char.ofNat 115] := by rw [init_lit, String.toList_ofList]
set_option maxRecDepth 100000 in
theorem init_split : [Char.ofNat 104, Char.ofNat 97, Char.ofNat 114, Char.ofNat 110, Char.ofNat 101, Char.ofNat 115, Char.ofNat 115, Char.ofNat 32, Char.ofNat 101, Char.ofNat 54, Char.ofNat 97, Char.ofNat 51, Char.ofNat 97, Char.ofNat 51, Char.ofNat 56, Char.ofNat 100, Char.ofNat 52, Char.ofNat 50, Char.ofNat 101, Char.ofNat 53, Char.ofNat 52, Char.ofNat 48, Char.ofNat 51, Char.ofNat 98, Char.ofNat 53, Char.ofNat 99, Char.ofNat 49, Char.ofNat 50, Char.ofNat 55, Char.ofNat 56, Char.ofNat 102, Char.ofNat 56, Char.ofNat 98, Char.ofNat 102, Char.ofNat 55, Char.ofNat 97, Char.ofNat 100, Char.ofNat 56, Char.ofNat 102, Char.ofNat 51, Char.ofNat 54, Char.ofNat 100, Char.ofNat 56, Char.ofNat 52, Char.ofNat 48, Char.ofNat 53, Char.ofNat 53, Char.ofNat 98, Char.ofNat 100, Char.ofNat 99, Char.ofNat 55, Char.ofNat 55, Char.ofNat 101, Char.ofNat 55, Char.ofNat 100, Char.ofNat 97, Char.ofNat 51, Char.ofNat 57, Char.ofNat 52, Char.ofNat 99, Char.ofNat 97, Char.ofNat 52, Char.ofNat 53, Char.ofNat 56, Char.ofNat 49, Char.ofNat 54, Char.ofNat 100, Char.ofNat 100, Char.ofNat 57, Char.ofNat 48, Char.ofNat 52, Char.ofNat 48, Char.ofNat 32, Char.ofNat 99, Char.ofNat 117, Char.ofNat 116, Char.ofNat 32, Char.ofNat 97, Char.ofNat 116, Char.ofNat 32, Char.ofNat 109, Char.ofNat 111, Char.ofNat 111, Char.ofNat 116, Char.ofNat 98, Char.ofNat 101, Char.ofNat 108, Char.ofNat 108, Char.ofNat 47, Char.ofNat 109, Char.ofNat 111, Char.ofNat 111, Char.ofNat 116, Char.ofNat 108, Char.ofNat 97, Char.ofNat 119, Char.ofNat 52, Char.ofNat 46, Char.ofNat 72, Char.ofNat 105, Char.ofNat 115, Char.ofNat 116, Char.ofNat 111, Char.ofNat 114, Char.ofNat 121, Char.ofNat 65, Char.ofNat 100, Char.ofNat 100, Char.ofNat 115, Char.ofNat 32, Char.ofNat 109, Char.ofNat 111, Char.ofNat 111, Char.ofNat 116, Char.ofNat 98, Char.ofNat 101, Char.ofNat 108, Char.ofNat 108, Char.ofNat 47, Char.ofNat 109, Char.ofNat 111, Char.ofNat 111, Char.ofNat 116, Char.ofNat 108, Char.ofNat 97, Char.ofNat 119, Char.ofNat 49, Char.ofNat 46, Char.ofNat 72, Char.ofNat 105, Char.ofNat 115, Char.ofNat 116, Char.ofNat 111, Char.ofNat 114, Char.ofNat 121, Char.ofNat 84, Char.ofNat 101, Char.ofNat 108, Char.ofNat 108, Char.ofNat 115, Char.ofNat 32, Char.ofNat 109, Char.ofNat 111, Char.ofNat 111, Char.ofNat 116, Char.ofNat 98, Char.ofNat 101, Char.ofNat 108, Char.ofNat 108, Char.ofNat 47, Char.ofNat 109, Char.ofNat 111, Char.ofNat 111, Char.ofNat 116, Char.ofNat 108, Char.ofNat 97, Char.ofNat 119, Char.ofNat 49, Char.ofNat 46, Char.ofNat 67, Char.ofNat 108, Char.ofNat 111, Char.ofNat 99, Char.ofNat 107, Char.ofNat 84, Char.ofNat 101, Char.ofNat 108, Char.ofNat 108, Char.ofNat 115, Char.ofNat 32, Char.ofNat 109, Char.ofNat 111, Char.ofNat 111, Char.ofNat 116, Char.ofNat 98, Char.ofNat 101, Char.ofNat 108, Char.ofNat 108, Char.ofNat 47, Char.ofNat 109, Char.ofNat 111, Char.ofNat 111, Char.ofNat 116, Char.ofNat 108, Char.ofNat 97, Char.ofNat 119, Char.ofNat 49, Char.ofNat 46, Char.ofNat 70, Char.ofNat 97, Char.ofNat 99, Char.ofNat 101, Char.ofNat 115, Char.ofNat 84, Char.ofNat 101, Char.ofNat 108, Char.ofNat 108, Char.ofNat 32, Char.ofNat 109, Char.ofNat 111, Char.ofNat 111, Char.ofNat 116, Char.ofNat 98, Char.ofNat 101, Char.ofNat 108, Char.ofNat 108, Char.ofNat 47, Char.ofNat 109, Char.ofNat 111, Char.ofNat 111, Char.ofNat 116, Char.ofNat 108, Char.ofNat 97, Char.ofNat 119, Char.ofNat 52, Char.ofNat 46, Char.ofNat 76, Char.ofNat 111, Char.ofNat 103, Char.ofNat 82, Char.ofNat 101, Char.ofNat 102, Char.ofNat 117, Char.ofNat 115, Char.ofNat 101, Char.ofNat 115, Char.ofNat 32, Char.ofNat 109, Char.ofNat 111, Char.ofNat 111, Char.ofNat 116, Char.ofNat 98, Char.ofNat 101, Char.ofNat 108, Char.ofNat 108, Char.ofNat 47, Char.ofNat 109, Char.ofNat 111, Char.ofNat 111, Char.ofNat 116, Char.ofNat 108, Char.ofNat 97, Char.ofNat 119, Char.ofNat 51, Char.ofNat 46, Char.ofNat 76, Char.ofNat 111, Char.ofNat 103, Char.ofNat 83, Char.ofNat 116, Char.ofNat 111, Char.ofNat 112, Char.ofNat 115, Char.ofNat 32, Char.ofNat 109, Char.ofNat 111, Char.ofNat 111, Char.ofNat 116, Char.ofNat 98, Char.ofNat 101, Char.ofNat 108, Char.ofNat 108, Char.ofNat 47, Char.ofNat 109, Char.ofNat 111, Char.ofNat 111, Char.ofNat 116, Char.ofNat 108, Char.ofNat 97, Char.ofNat 119, Char.ofNat 51, Char.ofNat 46, Char.ofNat 76, Char.ofNat 111, Char.ofNat 103, Char.ofNat 75, Char.ofNat 101, Char.ofNat 101, Char.ofNat 112, Char.ofNat 115] = hw0 ++ Char.ofNat 32 :: (hw1 ++ Char.ofNat 32 :: (hw2 ++ Char.ofNat 32 :: hrest)) := by kernel_rfl
theorem init_words : wordsSigns Tryd.prog.initOrder.toList = hw0 :: hw1 :: hw2 :: wordsSigns hrest := by
  rw [init_chars.trans init_split]
  rw [words_step hw0 _ (by kernel_rfl)]
  rw [words_step hw1 _ (by kernel_rfl)]
  rw [words_step hw2 _ (by kernel_rfl)]
theorem behind (rs : List (List Char)) : behindMainWord (hw0 :: hw1 :: hw2 :: rs) = hw2 :: rs := by kernel_rfl
theorem strip (rs : List (List Char)) : stripLifts liftWords (hw2 :: rs) = ([], hw2 :: rs) := by kernel_rfl
theorem laysLater : Tryd.prog.laysLater = false := by kernel_rfl
theorem bearsReflect : Tryd.prog.bearsReflect = false := by kernel_rfl
theorem doorFits : Tryd.prog.doorFits [] = true := by kernel_rfl
theorem headLifts : Tryd.prog.headLifts = [] := by
  unfold Program.headLifts; rw [init_words, behind, strip]; generalize wordsSigns hrest = rs; kernel_rfl
theorem mayEnter : Tryd.prog.mayEnter = true := by
  rw [mayEnter_of Tryd.prog _ _ (by rw [init_words, behind]), strip, laysLater, bearsReflect, doorFits]; generalize wordsSigns hrest = rs; kernel_rfl
theorem lifts_eq : Tryd.prog.liftsFinal = false := by
  unfold Program.liftsFinal; rw [init_words, behind, headLifts]; generalize wordsSigns hrest = rs; kernel_rfl
theorem make_eq : (Tryd.prog.make == some .cut) = true := by
  rw [make_of Tryd.prog _ _ (by rw [init_words, behind]), headLifts]; generalize wordsSigns hrest = rs; kernel_rfl
theorem laidOut : laidOutB Tryd.prog = true := by kernel_rfl
theorem mapsRowed : mapsRowed Tryd.prog = true := by kernel_rfl
theorem stops : (Tryd.prog.stops == []) = true := by kernel_rfl
theorem stopKnobs : (Tryd.prog.stopKnobs == []) = true := by kernel_rfl
theorem stopsHeard : Tryd.prog.stopsHeard = true := by kernel_rfl
theorem own : ownKnob Tryd.prog.godebug = none := by kernel_rfl
theorem and_mk {a b : Bool} (ha : a = true) (hb : b = true) : (a && b) = true := by rw [ha, hb]; rfl
end Go.Proofs.YtgjjilehpgnjhaaDoor.facts
