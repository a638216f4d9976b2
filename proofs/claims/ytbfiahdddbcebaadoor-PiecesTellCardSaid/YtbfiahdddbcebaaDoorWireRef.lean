/- Contracts of the reference: a word as bytes. -/
import Derived.Test.YtbfiahdddbcebaaDoorWireSame
import Derived.Test.YtbfiahdddbcebaaDoorWireLong
import Derived.Test.YtbfiahdddbcebaaDoorJoiner
namespace Go.Proofs.YtbfiahdddbcebaaDoor
set_option linter.unusedVariables false
set_option linter.unusedSimpArgs false
open Go.RowKit
theorem sumN_next {l : List UInt8} {k : Nat} (h : k < l.length) : sumN (l.take (k + 1)) = sumN (l.take k) + (l[k]).toNat := by
  unfold sumN
  rw [List.take_succ_eq_append_getElem h, List.map_append, List.sum_append]; simp
theorem sumN_le : ∀ (l : List UInt8), sumN l ≤ 255 * l.length
  | [] => by simp [sumN]
  | x :: r => by
    have := sumN_le r
    have := x.toNat_lt
    simp only [sumN, List.map_cons, List.sum_cons, List.length_cons] at *
    omega
theorem dig3_vals2 (y : Nat) (h : y ≤ 1000000) : (dig3 y).map u8V = [.int .u8 ((y : Int) / 65536), .int .u8 ((y : Int) / 256 % 256), .int .u8 ((y : Int) % 256)] := by
  rw [dig3_vals y h]
  have : (y : Int) / 256 / 256 = (y : Int) / 65536 := by omega
  rw [this]
set_option maxRecDepth 100000 in
set_option maxHeartbeats 4000000 in
theorem refBytes_any {w0 w : World} {R : HProp} (who word : Int) (v : Value) (l : List Int) (he : saidErr who word l = 0) (h : Own w0 R w) (hl : Reads w0 R v l) :
    Calls Tryd.prog 23 #[.agg #[.int .i64 who, .int .i64 word, v]] w fun e w' => e = .returned (.string (packS who word l)) ∧ Own w0 R w' := by
  obtain ⟨ad, cap, rfl, hlc, hcap⟩ := (hl _ h).shape
  obtain ⟨n, hn⟩ : ∃ n, n = l.length := ⟨_, rfl⟩
  rw [← hn] at hlc hl ⊢
  obtain ⟨hm, hw, hv⟩ := saidErr0 he
  obtain ⟨h5, hb⟩ := vecErr0 hv
  have hm' : 0 ≤ who ∧ who < 5 := by simpa [isMember] using hm
  have hw' : 1 ≤ word ∧ word ≤ 30 := by simpa [isWord] using hw
  obtain ⟨who', rfl⟩ : ∃ n : Nat, who = n := ⟨who.toNat, by omega⟩
  obtain ⟨word', rfl⟩ : ∃ n : Nat, word = n := ⟨word.toNat, by omega⟩
  have hn5 : n = 5 := by omega
  subst hn5
  clear h5
  obtain ⟨b1, hb_b1⟩ : ∃ zz_, zz_ = (w).heap.size := ⟨_, rfl⟩
  obtain ⟨w1, hw_w1⟩ : ∃ zz_, zz_ = (w).alloc (.cells #[.int .i64 who', .int .i64 word', .slice ad 5 cap] 24 (0, 0)) := ⟨_, rfl⟩
  have h_HO1 := (h).alloc (.cells #[.int .i64 who', .int .i64 word', .slice ad 5 cap] 24 (0, 0))
  rw [← hb_b1, ← hw_w1] at h_HO1
  have HO1 := Lib.hid h_HO1
  clear h_HO1
  have c0 : w1.cell? ⟨b1, 0, none⟩ = some (.int .i64 who') := (HO1.out.cell 0).trans rfl
  have c1 : w1.cell? ⟨b1, 1, none⟩ = some (.int .i64 word') := (HO1.out.cell 1).trans rfl
  have hp : packS who' word' l = ⟨(packB who' word' l).toArray⟩ := by unfold packS; rw [if_pos he]
  rw [hp]
  clear h
  have HE := Lib.hid he; have HP := Lib.hid hp; have HL := Lib.hid hl; have HM := Lib.hid hm; have HW := Lib.hid hw; have HV := Lib.hid hv; have HB := Lib.hid hb; have HN := Lib.hid hn
  clear he hp hl hm hw hv hb hn
  go_enter Tryd.func23, Tryd.ntmps23
  go_upto_region 1 with fail
  rw [← hb_b1, ← hw_w1]
  clear hb_b1 hw_w1
  go_upto_region 2 with fail
  obtain ⟨b3, hb_b3⟩ : ∃ zz_, zz_ = (w1).heap.size := ⟨_, rfl⟩
  obtain ⟨w3, hw_w3⟩ : ∃ zz_, zz_ = (w1).alloc (.cells #[.int .u8 who', .int .u8 word'] 5 (0, 0)) := ⟨_, rfl⟩
  have h_HO3 := (HO1.out).alloc (.cells #[.int .u8 who', .int .u8 word'] 5 (0, 0))
  rw [← hb_b3, ← hw_w3] at h_HO3
  have HO3 := Lib.hid h_HO3
  clear h_HO3
  rw [← hb_b3, ← hw_w3]
  clear hb_b3 hw_w3
  have hby0 : u8V (byt who') = .int .u8 who' := (u8_of (by rw [byt_toNat _ (by omega)]; omega)).symm
  have hby1 : u8V (byt word') = .int .u8 word' := (u8_of (by rw [byt_toNat _ (by omega)]; omega)).symm
  have HO4 : Hid (Own w0 (BySl (.slice (some ⟨b3, 0, none⟩) 2 2) (wHead who' word' (l.take 0)) * (SdB b1 who' word' (.slice ad 5 cap) * R)) w3) := Lib.hid (by
    unfold BySl
    exact Own.sl_mk (Nat.le_refl _) (by unfold maxLen; omega) (by simp [wHead]) (by simp) (fun i hi => by
      have h2 : (wHead (who' : Int) (word' : Int) (l.take 0)).map u8V = [.int .u8 (who' : Int), .int .u8 (word' : Int)] := by
        show [u8V (byt who'), u8V (byt word')] = _
        rw [hby0, hby1]
      rw [h2]; simp) HO3.out)
  clear HO3 hby0 hby1 c0 c1
  have HM' := Lib.hid hm'; have HW' := Lib.hid hw'
  clear hm' hw'
  go_upto_block 0 with fail
  go_wp2_with fail
  go_loopw [4, 3] (fun iv bv wr => ∃ k : Nat, k ≤ 5 ∧ iv = .int .i64 k ∧ Hid (Own w0 (BySl bv (wHead who' word' (l.take k)) * (SdB b1 who' word' (.slice ad 5 cap) * R)) wr)) (fun iv _ _ => 5 - (intOf iv).toNat)
  case atStart => exact ⟨0, Nat.zero_le _, rfl, HO4⟩
  case round =>
    obtain ⟨k, hk, rfl, HO⟩ := hrel
    obtain ⟨a2, q2, hs2, hq1, hq2⟩ := HO.out.by_shape
    obtain ⟨m, hm⟩ : ∃ m, m = (wHead who' word' (l.take k)).length := ⟨_, rfl⟩
    have hmk : m = 2 + 3 * k := by rw [hm, wHead_size, List.length_take, ← HN.out]; omega
    rw [← hm] at hs2 hq1
    subst hs2
    by_cases hlt : k < 5
    · obtain ⟨a, rfl, hc⟩ := (HL.out.more.more _ HO.out).at k (by rw [← HN.out]; exact hlt)
      obtain ⟨x, hx⟩ : ∃ x, x = l[k]'(by rw [← HN.out]; exact hlt) := ⟨_, rfl⟩
      have hxb := HB.out x (by rw [hx]; exact List.getElem_mem _)
      have hnx : wHead who' word' (l.take (k + 1)) = wHead who' word' (l.take k) ++ dig3 x := by rw [hx]; exact wHead_next (by rw [← HN.out]; exact hlt)
      rw [← hx] at hc
      obtain ⟨y, rfl⟩ : ∃ y : Nat, x = y := ⟨x.toNat, by omega⟩
      have hown : Own w0 (Sl 5 1 (.slice a2 m q2) m ((wHead who' word' (l.take k)).map u8V) * (SdB b1 who' word' (.slice (some a) 5 cap) * R)) wr := HO.out.perm (by unfold BySl; rw [← hm])
      have c2 := HO.out.second.sdB.2.2.1
      have hy6 : y ≤ 1000000 := by omega
      have hm17 : m ≤ 17 := by omega
      have HX := Lib.hid hx; have HXB := Lib.hid hxb; have HNX := Lib.hid hnx; have HM := Lib.hid hm; have HMK := Lib.hid hmk; have HOWN := Lib.hid hown
      clear hx hxb hnx hm hmk hown
      go_wp2_with (at_builtin; refine wpList_app rfl _ _ 32 rfl 5 1 1 _ info_byte Tryd.underlying32 rfl (by decide) rfl (HOWN.out.alloc' _) (by rfl) (by rfl) (Rd_lit (by simp) (by unfold maxLen; omega)) (by intro u hu; simp at hu; rcases hu with rfl | rfl | rfl <;> rfl) (by unfold maxLen; omega) (by omega) ?_; intro v' w5 ho5; obtain ⟨ad5, cp5, hv5, _⟩ := Own.rd ho5; subst hv5; have HO5 := Lib.hid ho5; clear ho5)
      go_round
      case rel => exact ⟨k + 1, by omega, by go_num, Lib.hid (by
        rw [HNX.out]
        unfold BySl
        rw [List.length_append, ← HM.out, List.map_append, dig3_vals2 y hy6]
        exact HO5.out)⟩
      case measure => simp [intOf]; omega
    · have hk5 : k = 5 := by omega
      subst hk5
      have hlt : l.take 5 = l := List.take_of_length_le (by rw [← HN.out]; omega)
      rw [hlt] at hm
      have hm17 : m = 17 := hmk
      subst hm17
      have ho := HO.out
      rw [hlt] at ho
      obtain ⟨A, hA⟩ : ∃ A, A = wHead who' word' l := ⟨_, rfl⟩
      rw [← hA] at ho hm
      have HO6 := Lib.hid ho
      have HRD : Hid (ByRd wr (.slice a2 17 q2) A) := Lib.hid (Own.rd ho)
      clear ho HO
      have HM := Lib.hid hm; have HMK := Lib.hid hmk; have HLT := Lib.hid hlt; have HA := Lib.hid hA
      clear hm hmk hlt hA
      go_wp2_with fail
      have hsl : ∀ k, sumN (A.take k) ≤ 255 * 17 := fun k => by
        have := sumN_le (A.take k)
        have : (A.take k).length ≤ 17 := by rw [List.length_take, ← HM.out]; omega
        omega
      have HSL := Lib.hid hsl
      clear hsl
      go_loop [7, 6] (fun iv nv => ∃ k : Nat, k ≤ 17 ∧ iv = .int .i64 k ∧ nv = .int .i64 (sumN (A.take k) : Nat)) (fun iv _ => 17 - (intOf iv).toNat)
      case atStart => exact ⟨0, Nat.zero_le _, rfl, rfl⟩
      case round =>
        obtain ⟨k, hk, rfl, rfl⟩ := hrel
        by_cases hlt : k < 17
        · obtain ⟨a, rfl, hc⟩ := HRD.out.at k (by rw [← HM.out]; exact hlt)
          have hs := sumN_next (l := A) (k := k) (by rw [← HM.out]; exact hlt)
          have hb1 := HSL.out k
          have hb2 := HSL.out (k + 1)
          obtain ⟨S0, hS0⟩ : ∃ S, S = sumN (A.take k) := ⟨_, rfl⟩
          obtain ⟨X, hX⟩ : ∃ X, X = (A[k]'(by rw [← HM.out]; exact hlt)).toNat := ⟨_, rfl⟩
          have hX2 : X < 256 := by rw [hX]; exact UInt8.toNat_lt _
          rw [← hS0, ← hX] at hs
          rw [hs] at hb2
          rw [← hS0] at hb1
          rw [← hX] at hc
          rw [← hS0]
          have HS := Lib.hid hs; have HS0 := Lib.hid hS0; have HX := Lib.hid hX
          clear hs hS0 hX
          go_wp2
          go_round
          case rel => exact ⟨k + 1, by omega, by go_num, by rw [HS.out]; go_num⟩
          case measure => simp [intOf]; omega
        · have hkn : k = 17 := by omega
          subst hkn
          have hta : A.take 17 = A := List.take_of_length_le (by rw [← HM.out]; omega)
          have hb1 := HSL.out 17
          have hsb := sumB_toNat A 0
          rw [hta] at hb1
          rw [hta]
          have hsb2 : u8V (sumB A) = .int .u8 ((sumN A : Int) % 256) := (u8_of (by
            unfold sumB
            rw [hsb]
            simp only [UInt8.toNat_zero]
            omega)).symm
          have hpk : packB who' word' l = A ++ [sumB A] := by unfold packB; rw [← HA.out]
          obtain ⟨S0, hS0⟩ : ∃ S, S = sumN A := ⟨_, rfl⟩
          rw [← hS0] at hb1 hsb2
          rw [← hS0]
          have hown : Own w0 (Sl 5 1 (.slice a2 17 q2) 17 (A.map u8V) * (SdB b1 who' word' (.slice ad 5 cap) * R)) wr := HO6.out.perm (by unfold BySl; rw [← HM.out])
          have HTA := Lib.hid hta; have HSB := Lib.hid hsb; have HSB2 := Lib.hid hsb2; have HPK := Lib.hid hpk; have HS0 := Lib.hid hS0; have HOWN := Lib.hid hown
          clear hta hsb hsb2 hpk hS0 hown
          go_wp2_with (at_builtin; refine wpList_app rfl _ _ 32 rfl 5 1 1 _ info_byte Tryd.underlying32 rfl (by decide) rfl (HOWN.out.alloc' _) (by rfl) (by rfl) (Rd_lit (by simp) (by unfold maxLen; omega)) (by intro u hu; simp at hu; subst hu; rfl) (by unfold maxLen; omega) (by omega) ?_; intro v' w5 ho5; obtain ⟨ad5, cp5, hv5, _⟩ := Own.rd ho5; subst hv5; have hpb : Own w0 (BySl (.slice ad5 18 cp5) (packB who' word' l) * _) w5 := ho5.perm (by unfold BySl; rw [HPK.out, List.length_append, ← HM.out, List.map_append, List.map_cons, HSB2.out]; rfl); have hcv := conv_back (show ByRd w5 (.slice ad5 18 cp5) (packB who' word' l) from Own.rd hpb) (by rw [HPK.out]; simp) 32 9 5 (by kernel_rfl) (by kernel_rfl) (by kernel_rfl); have HO7 := Lib.hid hpb.drop; clear ho5 hpb)
          go_ret
          exact ⟨rfl, HO7.out.drop⟩
set_option maxRecDepth 100000 in
set_option maxHeartbeats 4000000 in
theorem refPiece_any {w0 w : World} {R : HProp} (p : Pc) (h : Own w0 R w) :
    Calls Tryd.prog 25 #[pcV p] w fun e w' => e = .returned (.bool (pcRight p)) ∧ Own w0 R w' := by
  obtain ⟨a, o, t⟩ := p
  unfold pcV
  obtain ⟨b1, hb_b1⟩ : ∃ zz_, zz_ = (w).heap.size := ⟨_, rfl⟩
  obtain ⟨w1, hw_w1⟩ : ∃ zz_, zz_ = (w).alloc (.cells #[.int .i64 a, .int .i64 o, .string t] 50 (0, 0)) := ⟨_, rfl⟩
  have h_HO := (h).alloc (.cells #[.int .i64 a, .int .i64 o, .string t] 50 (0, 0))
  rw [← hb_b1, ← hw_w1] at h_HO
  have HO := Lib.hid h_HO
  clear h_HO
  have c0 : w1.cell? ⟨b1, 0, none⟩ = some (.int .i64 a) := (HO.out.cell 0).trans rfl
  have c1 : w1.cell? ⟨b1, 1, none⟩ = some (.int .i64 o) := (HO.out.cell 1).trans rfl
  have c2 : w1.cell? ⟨b1, 2, none⟩ = some (.string t) := (HO.out.cell 2).trans rfl
  obtain ⟨z, hz⟩ : ∃ z : Nat, z = t.size := ⟨_, rfl⟩
  obtain ⟨q1, h1⟩ : ∃ q, q = decide (1 ≤ o) := ⟨_, rfl⟩
  obtain ⟨q2, h2⟩ : ∃ q, q = decide (o ≤ 60) := ⟨_, rfl⟩
  obtain ⟨q3, h3⟩ : ∃ q, q = decide (0 ≤ a) := ⟨_, rfl⟩
  obtain ⟨q4, h4⟩ : ∃ q, q = decide (a < o) := ⟨_, rfl⟩
  obtain ⟨q5, h5⟩ : ∃ q, q = decide (t.size ≤ 12) := ⟨_, rfl⟩
  have hP : pcRight ⟨a, o, t⟩ = (q1 && q2 && q3 && q4 && q5) := by unfold pcRight; rw [h1, h2, h3, h4, h5]
  rw [hP]
  have t1 := h1.symm; have t2 := h2.symm; have t3 := h3.symm; have t4 := h4.symm
  have t5 : decide ((t.size : Int) ≤ 12) = q5 := by rw [h5, decide_eq_decide]; omega
  have H := Lib.hid h; have H1 := Lib.hid h1; have H2 := Lib.hid h2; have H3 := Lib.hid h3; have H4 := Lib.hid h4; have H5 := Lib.hid h5; have HP := Lib.hid hP
  clear h h1 h2 h3 h4 h5 hP
  go_enter Tryd.func25, Tryd.ntmps25
  go_upto_region 1 with fail
  rw [← hb_b1, ← hw_w1]
  clear hb_b1 hw_w1
  cases q1
  · go_wp2
    go_ret
    exact ⟨rfl, HO.out.drop⟩
  cases q2
  · go_wp2
    go_ret
    exact ⟨rfl, HO.out.drop⟩
  cases q3
  · go_wp2
    go_ret
    exact ⟨rfl, HO.out.drop⟩
  cases q4
  · go_wp2
    go_ret
    exact ⟨rfl, HO.out.drop⟩
  cases q5
  · go_wp2
    go_ret
    exact ⟨rfl, HO.out.drop⟩
  go_wp2
  go_ret
  exact ⟨rfl, HO.out.drop⟩
end Go.Proofs.YtbfiahdddbcebaaDoor
