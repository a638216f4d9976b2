/- TopPieces: a text that is split, of which the pieces come twice, and back to front, is joined as it was; and its row of bytes is as long as it, and three for each. -/
import Derived.Test.YtddbjcpfgjcmnaaTopPiecesP
import Derived.Test.YtddbjcpfgjcmnaaWireRow
import Derived.Test.YtddbjcpfgjcmnaaPiecesFew
import Derived.Test.YtddbjcpfgjcmnaaTopOne
namespace Go.Proofs.Ytddbjcpfgjcmnaa
set_option linter.unusedVariables false
set_option linter.unusedSimpArgs false
open Go.RowKit Go.Maps
theorem tp_same (a : ByteArray) : (a.toList == a.toList) = true := by simp
theorem tp_at {w0 w : World} {v : Value} {t : ByteArray} {z : Nat} {R : HProp} (h : Own w0 (PcSl v (splitOf t z) * R) w) : ∃ b off cap, v = .slice (some ⟨b, off, none⟩) (splitN t.size z) cap ∧ splitN t.size z ≤ cap ∧ cap ≤ maxLen := by
  have hl : 0 < splitN t.size z := by unfold splitN; omega
  obtain ⟨b, off, cap, h1, h2, h3, _⟩ := Own.sl_at h (by rw [pc_len, splitOf_len]; omega)
  rw [splitOf_len] at h1 h2
  exact ⟨b, off, cap, h1, h2, h3⟩
theorem tp_get {w0 w : World} {b off n cap : Nat} {t : ByteArray} {z : Nat} {R : HProp} (h : Own w0 (PcSl (.slice (some ⟨b, off, none⟩) n cap) (splitOf t z) * R) w) (k : Nat) (hk : k < splitN t.size z) :
    w.cell? ⟨b, off + k * 3, none⟩ = some (.int .i64 (splitAt t z k).at') ∧ w.cell? ⟨b, off + k * 3 + 1, none⟩ = some (.int .i64 (splitAt t z k).of) ∧ w.cell? ⟨b, off + k * 3 + 2, none⟩ = some (.string (splitAt t z k).text) := by
  obtain ⟨b', off', cap', h1, h2, h3, h4, _⟩ := Own.sl_at h (by rw [pc_len, splitOf_len]; have : 0 < splitN t.size z := (by unfold splitN; omega); omega)
  injection h1 with h1
  injection h1 with h1
  injection h1 with h1 h5
  subst h1 h5
  have hk' : k < (splitOf t z).length := by rw [splitOf_len]; exact hk
  have hg : (splitOf t z)[k] = splitAt t z k := by simp [splitOf]
  have g := fun j hj => pc_get (splitOf t z) k j hk' hj
  simp only [hg] at g
  exact ⟨h4 (k * 3) _ (g 0 (by omega)), by rw [Nat.add_assoc]; exact h4 (k * 3 + 1) _ (g 1 (by omega)), by rw [Nat.add_assoc]; exact h4 (k * 3 + 2) _ (g 2 (by omega))⟩
theorem tp_good {t : ByteArray} {z : Nat} (ht : t.size ≤ 60) (hz1 : 1 ≤ z) (hz : z ≤ 12) : ∀ p ∈ splitOf t z, goodPc p := by
  intro p hp
  obtain ⟨k, hk, rfl⟩ := List.mem_map.1 hp
  have h1 := split_right ht hz1 hz rfl (List.mem_range.1 hk)
  obtain ⟨⟨a1, a2⟩, ⟨a3, a4⟩, a5⟩ := pcRight_bd h1
  refine ⟨by unfold I64; omega, by unfold I64; omega, by unfold maxLen; omega⟩
set_option maxRecDepth 100000 in
set_option maxHeartbeats 4000000 in
theorem topPieces_law (w : World) (t : ByteArray) (ht : t.size ≤ maxLen) (size : Int) (hi : I64 size) :
    Calls Try.prog 4 #[.string t, .int .i64 size] w fun e w' => e = .returned (.bool true) ∧ Below w.heap.size w w' := by
  have htm : t.size ≤ 9223372036854775807 := Nat.le_trans ht (by unfold maxLen; omega)
  have HW0 := Lib.hid (Own.start w)
  have HT := Lib.hid ht; have HI := Lib.hid hi; have HTM := Lib.hid htm
  clear ht hi htm
  go_enter Try.func4, Try.ntmps4
  go_wp2_with fail
  refine (one_any HW0.out).mono ?_
  rintro e w1 ⟨rfl, ho⟩
  have HO1 := Lib.hid ho
  clear ho
  by_cases h60 : 60 < t.size
  · go_wp2_with fail
    refine (split_long t size _ HTM.out h60).mono ?_
    rintro e w2 ⟨rfl, rfl⟩
    rw [errV4']
    have H60 := Lib.hid h60
    clear h60
    go_wp2_with fail
    go_ret
    exact ⟨rfl, HO1.out.below⟩
  by_cases hz : size < 1 ∨ 12 < size
  · go_wp2_with fail
    refine (split_range t size _ (by omega) hz).mono ?_
    rintro e w2 ⟨rfl, rfl⟩
    rw [errV1']
    have H60 := Lib.hid h60; have HZ := Lib.hid hz
    clear h60 hz
    go_wp2_with fail
    go_ret
    exact ⟨rfl, HO1.out.below⟩
  have h60' : t.size ≤ 60 := by omega
  obtain ⟨z, rfl⟩ := Int.eq_ofNat_of_zero_le (show 0 ≤ size by omega)
  have hz1 : 1 ≤ z := by omega
  have hz12 : z ≤ 12 := by omega
  go_wp2_with fail
  refine (split_ok HO1.out t z h60' hz1 hz12).mono ?_
  rintro e w2 ⟨lv, rfl, hof⟩
  obtain ⟨lb, loff, lcap, rfl, hlc1, hlc2⟩ := tp_at hof
  have hre := split_ok_row t z h60' hz1 hz12
  have hrs := split_row_size t z h60' hz1 hz12
  have hrd : ReadsP w (PcSl (.slice (some ⟨lb, loff, none⟩) (splitN t.size z) lcap) (splitOf t z) * emp) (.slice (some ⟨lb, loff, none⟩) (splitN t.size z) lcap) (splitOf t z) := fun _ h => ⟨Own.rd h, tp_good h60' hz1 hz12⟩
  obtain ⟨n, hn⟩ : ∃ n, n = splitN t.size z := ⟨_, rfl⟩
  have hn1 : 1 ≤ n := by rw [hn]; unfold splitN; omega
  have hn60 : n ≤ 60 := by rw [hn]; exact splitN_le _ _ h60' hz1
  rw [← hn] at hof hlc1 hrs hrd ⊢
  obtain ⟨BB, hBB⟩ : ∃ B, B = rowS (splitOf t z) := ⟨_, rfl⟩
  rw [← hBB] at hrs
  have hTs : t.size ≤ 60 := h60'
  have tlen : ((BB.size : Int) != (t.size : Int) + 3 * (n : Int)) = false := by rw [bne_eq_false_iff_eq]; omega
  obtain ⟨L, hL⟩ : ∃ L, L = PcSl (.slice (some ⟨lb, loff, none⟩) n lcap) (splitOf t z) := ⟨_, rfl⟩
  rw [← hL] at hof hrd
  have HO2 := Lib.hid hof
  have hlc3 : lcap ≤ 9223372036854775807 := by unfold maxLen at hlc2; omega
  have hss := tp_same t
  clear hof HO1
  have H60 := Lib.hid h60; have HZ := Lib.hid hz; have H60' := Lib.hid h60'; have HZ1 := Lib.hid hz1; have HZ12 := Lib.hid hz12; have HN := Lib.hid hn; have HN1 := Lib.hid hn1; have HL := Lib.hid hL; have HRD := Lib.hid hrd; have HRE := Lib.hid hre; have HBB := Lib.hid hBB; have HRS := Lib.hid hrs
  clear h60 hz h60' hz1 hz12 hn hn1 hL hrd hre hBB hrs
  go_wp2_with fail
  refine (wrow_any _ (splitOf t z) HO2.out HRD.out).mono ?_
  rintro e w3 ⟨rfl, ho⟩
  rw [← HBB.out, HRE.out, errV0]
  have HO3 := Lib.hid ho
  clear ho
  go_wp2_with fail
  refine (joNew_any HO3.out).mono ?_
  rintro e w4 ⟨p, mb, rfl, ho⟩
  have HO4 := Lib.hid ho
  clear ho
  go_wp2_with fail
  go_loopw [11] (fun rv wr => ∃ (r N : Nat) (m : List (Int × ByteArray)), r ≤ 2 ∧ rv = .int .i64 r ∧ Hid (PB t z n (tpF r n) (tpC r n n) N m) ∧ Hid (Own w (JoP p mb N m * (L * emp)) wr)) (fun rv _ => 2 - (intOf rv).toNat)
  case atStart => exact ⟨0, 0, [], by omega, rfl, Lib.hid (tp_start t z n), HO4⟩
  case round =>
    clear HO2 HO3 HO4
    obtain ⟨r, N, m, hr, rfl, HPB, HO⟩ := hrel
    by_cases hr2 : r < 2
    rotate_left
    · have hre2 : r = 1 + 1 := by omega
      subst hre2
      obtain ⟨f1, f2⟩ := tp_end HPB.out HZ1.out HN.out
      have HSM := Lib.hid HPB.out.small
      have hN60 : N ≤ 60 := by rw [HPB.out.num]; split <;> omega
      have F1 := Lib.hid f1; have F2 := Lib.hid f2
      clear f1 f2
      go_wp2_with fail
      refine (joText_any p mb N hN60 m HSM.out HO.out).mono ?_
      rintro e w5 ⟨rfl, ho⟩
      rw [F1.out, if_pos rfl, errV0, F2.out]
      have HO5 := Lib.hid ho
      clear ho
      go_wp2_with fail
      go_ret
      exact ⟨rfl, HO5.out.below⟩
    obtain ⟨R, hR⟩ : ∃ R : Int, R = (r : Int) := ⟨_, rfl⟩
    obtain ⟨D, hD⟩ : ∃ D, D = decide (r = 0) := ⟨_, rfl⟩
    rw [← hR]
    have tR2 : decide (R < 2) = true := decide_eq_true (by omega)
    have tR0 : (R == 0) = D := by
      rw [hD]
      by_cases h0 : r = 0
      · rw [decide_eq_true h0, beq_iff_eq]; omega
      · rw [decide_eq_false h0, beq_eq_false_iff_ne]; omega
    have tDD : (D != D) = false := by rw [bne_eq_false_iff_eq]
    have hR1 : R + 1 ≤ 3 ∧ 0 ≤ R := by omega
    obtain ⟨hR3, hR4⟩ := hR1
    have HR := Lib.hid hR; have HD := Lib.hid hD; have HR2 := Lib.hid hr2
    clear hR hD hr2
    go_wp2_with fail
    go_loopw [12] (fun iv wr => ∃ (j N : Nat) (m : List (Int × ByteArray)), j ≤ n ∧ iv = .int .i64 ((j : Int) - 1) ∧ Hid (PB t z n (tpF r j) (tpC r n j) N m) ∧ Hid (Own w (JoP p mb N m * (L * emp)) wr)) (fun iv _ => (intOf iv + 1).toNat)
    case atStart => exact ⟨n, N, m, Nat.le_refl _, rfl, HPB, HO⟩
    case round =>
      clear HPB HO
      obtain ⟨j, N', m', hj, rfl, HPB, HO⟩ := hrel
      cases j with
      | zero =>
        have HPB2 := Lib.hid (tp_round HPB.out)
        clear HPB
        go_wp2_with fail
        go_roundw
        case rel => exact ⟨r + 1, N', m', by have := HR2.out; omega, by rw [HR.out]; rfl, HPB2, HO⟩
        case measure => have := HR.out; have := HR2.out; simp [intOf]; omega
      | succ k =>
        have hkn : k < n := by omega
        have t1 := HPB.out.err H60'.out HZ1.out HZ12.out HN.out hkn
        have t2 := tp_new HPB.out hkn
        have t3 := tp_step HPB.out H60'.out HZ1.out HZ12.out HN.out hkn
        have hq := HO.out.perm (show _ = L * (JoP p mb N' m' * emp) by ac_rfl)
        rw [HL.out] at hq
        obtain ⟨e0, e1, e2⟩ := tp_get hq k (by rw [← HN.out]; exact hkn)
        have hN60 : N' ≤ 60 := by rw [HPB.out.num]; split <;> omega
        obtain ⟨P, hP⟩ : ∃ P, P = splitAt t z k := ⟨_, rfl⟩
        have hPV : (Value.agg #[.int .i64 P.at', .int .i64 P.of, .string P.text]) = pcV P := rfl
        rw [← hP] at t1 t2 t3 e0 e1 e2
        have hk1 : (((k + 1 : Nat) : Int) - 1) = (k : Int) := by omega
        rw [hk1]
        have k0 : (0 : Int) ≤ (k : Int) := by omega
        have kn : (k : Int) < (n : Int) := by omega
        clear hq
        have T1 := Lib.hid t1; have T2 := Lib.hid t2; have T3 := Lib.hid t3; have HP := Lib.hid hP; have HPV := Lib.hid hPV; have HK1 := Lib.hid hk1
        clear t1 t2 t3 hP hPV hk1
        go_wp2_with fail
        refine (joTake_any p mb N' hN60 m' P HO.out).mono ?_
        rintro e w5 ⟨rfl, ho⟩
        rw [T1.out, T2.out, errV0]
        have HO5 := Lib.hid ho
        clear ho e0 e1 e2
        rw [← HD.out]
        go_wp2_with fail
        go_roundw
        case rel => exact ⟨k, _, _, by omega, rfl, T3, HO5⟩
        case measure => simp [intOf]
end Go.Proofs.Ytddbjcpfgjcmnaa
