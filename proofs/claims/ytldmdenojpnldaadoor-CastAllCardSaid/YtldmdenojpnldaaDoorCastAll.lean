/- CastAll: of a word as many packets are on the way as there are others, to each one. -/
import Derived.Test.YtldmdenojpnldaaDoorCast4
import Derived.Test.YtldmdenojpnldaaDoorTold
import Derived.Test.YtldmdenojpnldaaDoorLaid
namespace Go.Proofs.YtldmdenojpnldaaDoor
set_option linter.unusedVariables false
set_option linter.unusedSimpArgs false
open Go.RowKit Go.Maps
theorem csPk_at {n who i : Nat} (h2 : 2 ≤ n) (h5 : n ≤ 5) (hw : who < n) (hi : i < n - 1) (word : Int) : (csPk n (who : Int) word)[i]? = some ((who : Int), (if who ≤ i then (i : Int) + 1 else (i : Int)), word) := by
  rcases (show n = 2 ∨ n = 3 ∨ n = 4 ∨ n = 5 by omega) with rfl | rfl | rfl | rfl <;>
  rcases (show who = 0 ∨ who = 1 ∨ who = 2 ∨ who = 3 ∨ who = 4 by omega) with rfl | rfl | rfl | rfl | rfl <;>
  first
    | omega
    | (rcases (show i = 0 ∨ i = 1 ∨ i = 2 ∨ i = 3 by omega) with rfl | rfl | rfl | rfl <;> first | omega | rfl)
set_option maxRecDepth 100000 in
set_option maxHeartbeats 4000000 in
theorem castAll_law (w : World) (hg : As.Handle w) (n : Int) (_hn : I64 n) (who : Int) (_hw : I64 who) (word : Int) (_hd : I64 word) :
    Calls Tryd.prog 8 #[.int .i64 n, .int .i64 who, .int .i64 word] w fun e w' => e = .returned (.bool true) ∧ Below w.heap.size w w' := by
  have HW0 := Lib.hid (Own.start w)
  cases hgr : isGrp n
  · have hcs : n < 2 ∨ (¬ n < 2 ∧ 5 < n) := by simp [isGrp] at hgr; omega
    have HGR := Lib.hid hgr; have HG := Lib.hid hg
    clear hgr hg
    rcases hcs with h1 | ⟨h1, h2⟩
    all_goals
      go_enter Tryd.func8, Tryd.ntmps8
      go_wp2_with fail
      refine (csNew_no n _ HGR.out).mono ?_
      rintro e w' ⟨rfl, rfl⟩
      rw [show errV 1 = .iface 129 (.int .i64 1) from rfl]
      go_wp2
      go_ret
      exact ⟨rfl, HW0.out.below⟩
  have hnb : 2 ≤ n ∧ n ≤ 5 := by simpa [isGrp] using hgr
  obtain ⟨N, rfl⟩ : ∃ N : Nat, n = (N : Int) := ⟨n.toNat, by omega⟩
  have hN2 : 2 ≤ N := by omega
  have hN5 : N ≤ 5 := by omega
  have HI := Lib.hid (CsI.new hN2 hN5)
  have hml : (csNew N).mem.length = N := by simp [csNew]
  have HGR := Lib.hid hgr; have HG := Lib.hid hg; have HML := Lib.hid hml
  clear hgr hg hml
  go_enter Tryd.func8, Tryd.ntmps8
  go_wp2_with fail
  refine (csNew_yes N HGR.out HW0.out).mono ?_
  rintro e w1 ⟨p, rfl, ho⟩
  rw [errV0]
  have HO := Lib.hid ho
  clear ho
  go_wp2_with fail
  refine (csSay_any p (csNew N) who word HI.out (by simp [csNew]) HO.out).mono ?_
  rintro e w2 ⟨rfl, ho⟩
  have herr : csSayErr (csNew N) who word = if inR who N = false then 1 else if isWord word = false then 1 else 0 := by
    unfold csSayErr
    rw [HML.out]
    by_cases h1 : inR who N = false
    · rw [if_pos h1, if_pos h1]
    rw [if_neg h1, if_neg h1]
    by_cases h2 : isWord word = false
    · rw [if_pos h2, if_pos h2]
    rw [if_neg h2, if_neg h2, if_neg (by simp [csNew, mget]), if_neg]
    have e1 : (csNew N).net.all.length = 0 := rfl
    have e2 : (csNew N).said.length = 0 := rfl
    rw [e1, e2]
    omega
  by_cases hbad : inR who N = true ∧ isWord word = true
  rotate_left
  · have hE : csSayErr (csNew N) who word = 1 := by
      rw [herr]
      cases h1 : inR who N
      · rfl
      cases h2 : isWord word
      · rfl
      exact absurd ⟨h1, h2⟩ hbad
    have hcs : who < 0 ∨ (¬ who < 0 ∧ (N : Int) ≤ who) ∨ (¬ who < 0 ∧ ¬ (N : Int) ≤ who ∧ word < 1) ∨ (¬ who < 0 ∧ ¬ (N : Int) ≤ who ∧ ¬ word < 1 ∧ 30 < word) := by
      simp [inR, isWord] at hbad; omega
    have HO2 := Lib.hid ho
    rw [hE, show errV 1 = .iface 129 (.int .i64 1) from rfl]
    have HE := Lib.hid hE; have HERR := Lib.hid herr; have HBAD := Lib.hid hbad
    clear hE herr hbad
    clear ho HO
    rcases hcs with h1 | ⟨h1, h2⟩ | ⟨h1, h2, h3⟩ | ⟨h1, h2, h3, h4⟩
    all_goals
      go_wp2
      go_ret
      exact ⟨rfl, HO2.out.below⟩
  obtain ⟨hin, hwd⟩ := hbad
  have hE : csSayErr (csNew N) who word = 0 := by rw [herr, if_neg (by rw [hin]; simp), if_neg (by rw [hwd]; simp)]
  have hib : 0 ≤ who ∧ who < (N : Int) := by simpa [inR] using hin
  have hwb : 1 ≤ word ∧ word ≤ 30 := by simpa [isWord] using hwd
  obtain ⟨k, rfl⟩ : ∃ k : Nat, who = (k : Int) := ⟨who.toNat, by omega⟩
  have hkN : k < N := by omega
  rw [hE, errV0]
  have hI2 := HI.out.say (k : Int) word
  obtain ⟨C, hC⟩ : ∃ C, C = csSay (csNew N) (k : Int) word := ⟨_, rfl⟩
  rw [← hC] at ho hI2
  have hall : C.net.all = csPk N (k : Int) word := by
    rw [hC]; unfold csSay; rw [if_pos hE, HML.out]; rfl
  have hmem : C.mem.length = N := by
    rw [hC]; unfold csSay; rw [if_pos hE]; simp [HML.out]
  have hsd : (mget C.said word).isSome = true := by
    rw [hC]; unfold csSay; rw [if_pos hE, mget_mput, if_pos rfl]; rfl
  have hE7 : csSayErr C (k : Int) word = 7 := by
    unfold csSayErr
    rw [hmem, if_neg (by rw [hin]; simp), if_neg (by rw [hwd]; simp), hsd, if_pos rfl]
  have hs7 : csSay C (k : Int) word = C := by unfold csSay; rw [hE7]; rfl
  have hlen : (csPk N (k : Int) word).length = N - 1 := csPk_len hkN
  have hb : C.hist.length ≤ 100000 := by
    rw [hC]; unfold csSay; rw [if_pos hE]; simp [csNew]
  have HO2 := Lib.hid ho
  have HIC := Lib.hid hI2
  clear ho HO hI2
  have HC := Lib.hid hC
  clear hC
  have HE := Lib.hid hE; have HERR := Lib.hid herr; have HIN := Lib.hid hin; have HWD := Lib.hid hwd; have HMEM := Lib.hid hmem; have HSD := Lib.hid hsd; have HALL := Lib.hid hall; have HE7 := Lib.hid hE7; have HS7 := Lib.hid hs7; have HLEN := Lib.hid hlen; have HB := Lib.hid hb
  clear hE herr hin hwd hmem hsd hall hE7 hs7 hlen hb
  go_wp2_with fail
  refine (csOnWay_any p C HIC.out HO2.out).mono ?_
  rintro e w3 ⟨v3, rfl, ho⟩
  obtain ⟨ad3, cp3, hv3, hcc1, hcc2, _⟩ := Own.rd ho
  rw [HALL.out, HLEN.out] at hv3 hcc1
  subst hv3
  have HO3 := Lib.hid ho
  clear ho HO2
  have t1 : (((N - 1 : Nat) : Int) != (N : Int) - 1) = false := by rw [bne_eq_false_iff_eq]; omega
  go_wp2_with fail
  refine (csSay_any p C (k : Int) word HIC.out HB.out HO3.out.second).mono ?_
  rintro e w4 ⟨rfl, ho⟩
  rw [HE7.out]
  rw [HS7.out] at ho
  have HO4 := Lib.hid ho
  clear ho HO3
  go_wp2_with fail
  refine (sameErr_any HG.out 7 7 HO4.out).mono ?_
  rintro e w5 ⟨rfl, ho⟩
  have HO5 := Lib.hid ho.second
  clear ho HO4
  go_wp2_with fail
  go_loop [10] (fun iv => ∃ i : Nat, i ≤ N - 1 ∧ iv = .int .i64 i) (fun iv => N - 1 - (intOf iv).toNat)
  case atStart => exact ⟨0, Nat.zero_le _, rfl⟩
  case round =>
    obtain ⟨i, hi, rfl⟩ := hrel
    by_cases hlt : i < N - 1
    rotate_left
    · go_wp2
      go_ret
      exact ⟨rfl, HO5.out.below⟩
    have hia : i < C.net.all.length := by rw [HALL.out, HLEN.out]; exact hlt
    obtain ⟨aa, eb, eo, es, e1, hea, hcs, _⟩ := (PkSl_reads (w0 := w) (R := CsP p C * emp) HIC.out.net.good).at HO5.out i hia
    subst e1
    obtain ⟨c0, c1, c2⟩ := hcs _ HO5.out
    have hev : evAt C.net.all i = ((k : Int), (if k ≤ i then (i : Int) + 1 else (i : Int)), word) := by
      unfold evAt
      rw [HALL.out, List.getD_eq_getElem?_getD, csPk_at hN2 hN5 hkN hlt]; rfl
    rw [hev] at c0 c1 c2
    dsimp only at c0 c1 c2
    have i0 : (0 : Int) ≤ (i : Int) := by omega
    have iN : (i : Int) < ((N - 1 : Nat) : Int) := by omega
    clear hcs
    by_cases hki : k ≤ i
    · rw [if_pos hki] at c1
      have t5 : decide (k ≤ i) = true := decide_eq_true hki
      have HEV := Lib.hid hev; have HKI := Lib.hid hki
      clear hev hki
      go_wp2
      go_round
      case rel => exact ⟨i + 1, by omega, by go_num⟩
      case measure => simp [intOf]; omega
    · rw [if_neg hki] at c1
      have t5 : decide (k ≤ i) = false := decide_eq_false hki
      have HEV := Lib.hid hev; have HKI := Lib.hid hki
      clear hev hki
      go_wp2
      go_round
      case rel => exact ⟨i + 1, by omega, by go_num⟩
      case measure => simp [intOf]; omega
end Go.Proofs.YtldmdenojpnldaaDoor
