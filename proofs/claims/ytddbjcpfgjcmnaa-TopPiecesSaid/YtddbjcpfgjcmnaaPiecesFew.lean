/- PiecesFew: Split makes ceiling(len/size) pieces, at least one; they are numbered; all but the last are full. -/
import Derived.Test.YtddbjcpfgjcmnaaPieces
namespace Go.Proofs.Ytddbjcpfgjcmnaa
set_option linter.unusedVariables false
set_option linter.unusedSimpArgs false
open Go.RowKit
theorem errV1' : errV 1 = .iface 38 (.int .i64 1) := rfl
theorem errV4' : errV 4 = .iface 38 (.int .i64 4) := rfl
theorem splitOf_len (s : ByteArray) (z : Nat) : (splitOf s z).length = splitN s.size z := by simp [splitOf]
theorem full_size (s : ByteArray) (z k : Nat) (hz : 1 ≤ z) (hk : k + 1 < splitN s.size z) : ((s.extract (k * z) (min s.size ((k + 1) * z))).size : Int) = z := by
  have := split_in s.size z (k + 1) hz hk
  rw [Nat.min_eq_right this, ByteArray.size_extract, Nat.min_eq_left this, Nat.add_mul]
  omega
theorem split_cell {w0 w : World} {v : Value} {s : ByteArray} {z : Nat} {R : HProp} (hz : 1 ≤ z) (h : Own w0 (PcSl v (splitOf s z) * R) w) :
    ∃ b off cap, v = .slice (some ⟨b, off, none⟩) (splitN s.size z) cap ∧ splitN s.size z ≤ cap ∧ cap ≤ maxLen ∧ ∀ k, k < splitN s.size z →
      w.cell? ⟨b, off + k * 3, none⟩ = some (.int .i64 k) ∧ w.cell? ⟨b, off + k * 3 + 1, none⟩ = some (.int .i64 (splitN s.size z)) ∧
      ∃ t : ByteArray, (k + 1 < splitN s.size z → (t.size : Int) = z) ∧ w.cell? ⟨b, off + k * 3 + 2, none⟩ = some (.string t) := by
  have hl : 0 < splitN s.size z := by unfold splitN; omega
  obtain ⟨b, off, cap, h1, h2, h3, h4, _⟩ := Own.sl_at h (by rw [pc_len, splitOf_len]; omega)
  rw [splitOf_len] at h1 h2
  refine ⟨b, off, cap, h1, h2, h3, fun k hk => ?_⟩
  have hk' : k < (splitOf s z).length := by rw [splitOf_len]; exact hk
  have hg : (splitOf s z)[k] = splitAt s z k := by simp [splitOf]
  have g := fun j hj => pc_get (splitOf s z) k j hk' hj
  simp only [hg] at g
  refine ⟨h4 (k * 3) _ (g 0 (by omega)), ?_, _, fun h => full_size s z k hz h, ?_⟩
  · rw [Nat.add_assoc]; exact h4 (k * 3 + 1) _ (g 1 (by omega))
  · rw [Nat.add_assoc]; exact h4 (k * 3 + 2) _ (g 2 (by omega))
set_option maxRecDepth 100000 in
set_option maxHeartbeats 4000000 in
theorem piecesFew_law (w : World) (s : ByteArray) (hs : s.size ≤ maxLen) (size : Int) (_hi : I64 size) :
    Calls Try.prog 3 #[.string s, .int .i64 size] w fun e w' => e = .returned (.bool true) ∧ Below w.heap.size w w' := by
  have hs' : s.size ≤ 9223372036854775807 := Nat.le_trans hs (by unfold maxLen; omega)
  clear hs
  by_cases h60 : 60 < s.size
  · have hd : decide ((60 : Int) < (s.size : Int)) = true := by simp; omega
    go_enter Try.func3, Try.ntmps3
    go_wp2_with fail
    refine (split_long _ _ _ hs' h60).mono ?_
    rintro e w' ⟨rfl, rfl⟩
    rw [errV4']
    go_wp2
    go_ret
    exact ⟨rfl, Below.refl _ _⟩
  have h60' : s.size ≤ 60 := by omega
  have hd1 : decide ((60 : Int) < (s.size : Int)) = false := by simp; omega
  rcases (by omega : size < 1 ∨ (¬ size < 1 ∧ 12 < size) ∨ (1 ≤ size ∧ size ≤ 12)) with hz | ⟨hz1, hz⟩ | ⟨hz1, hz2⟩
  · go_enter Try.func3, Try.ntmps3
    go_wp2_with fail
    refine (split_range _ _ _ h60' (Or.inl hz)).mono ?_
    rintro e w' ⟨rfl, rfl⟩
    rw [errV1']
    go_wp2
    go_ret
    exact ⟨rfl, Below.refl _ _⟩
  · go_enter Try.func3, Try.ntmps3
    go_wp2_with fail
    refine (split_range _ _ _ h60' (Or.inr hz)).mono ?_
    rintro e w' ⟨rfl, rfl⟩
    rw [errV1']
    go_wp2
    go_ret
    exact ⟨rfl, Below.refl _ _⟩
  · obtain ⟨z, rfl⟩ := Int.eq_ofNat_of_zero_le (show 0 ≤ size by omega)
    have hn1 : 1 ≤ z := by omega
    have hn2 : z ≤ 12 := by omega
    clear hz1 hz2
    obtain ⟨N, hN⟩ : ∃ N, N = splitN s.size z := ⟨_, rfl⟩
    have hN1 : 1 ≤ N := by rw [hN]; unfold splitN; omega
    have hN60 : N ≤ 60 := by rw [hN]; exact splitN_le _ _ h60' hn1
    have hq : (((s.size : Int) + z - 1) / z = N) ∨ (((s.size : Int) + z - 1) / z = 0 ∧ N = 1) := by
      have e : ((s.size : Int) + z - 1) / z = (((s.size + z - 1) / z : Nat) : Int) := by
        rw [show ((s.size : Int) + z - 1) = ((s.size + z - 1 : Nat) : Int) from by omega, Int.natCast_ediv]
      rw [e, hN]; unfold splitN
      generalize (s.size + z - 1) / z = q
      omega
    have HN := Lib.hid hN
    clear hN
    rcases hq with hq | ⟨hq, rfl⟩
    · have hN0 : ((N : Int) == 0) = false := by simp; omega
      go_enter Try.func3, Try.ntmps3
      go_wp2_with fail
      refine (split_ok (Own.start _) s z h60' hn1 hn2).mono ?_
      rintro e w' ⟨v', rfl, hown⟩
      obtain ⟨b, off, cap, rfl, hcap1, hcap2, hc⟩ := split_cell hn1 hown
      rw [← HN.out] at hcap1 hc ⊢
      have hbel := hown.below
      have HC := Lib.hid hc
      clear hc hown
      go_wp2_with fail
      go_loop [8] (fun i => ∃ k : Nat, k ≤ N ∧ i = .int .i64 k) (fun i => N - (intOf i).toNat)
      case atStart => exact ⟨0, Nat.zero_le _, rfl⟩
      case round =>
        obtain ⟨k, hk, rfl⟩ := hrel
        by_cases hlt : k < N
        · obtain ⟨c1, c2, t, ht, c3⟩ := HC.out k hlt
          have HT := Lib.hid ht
          clear ht
          by_cases hlast : k + 1 < N
          · have hfull : ((t.size : Int) != (z : Int)) = false := by have := HT.out hlast; simp <;> omega
            have hlast' : (k : Int) < (N : Nat) - 1 := by omega
            go_wp2
            all_goals refine ⟨⟨k + 1, by omega, by go_num⟩, ?_⟩
            all_goals simp [intOf] <;> omega
          · have hlast' : ¬ (k : Int) < (N : Nat) - 1 := by omega
            go_wp2
            refine ⟨⟨k + 1, by omega, by go_num⟩, ?_⟩
            simp [intOf] <;> omega
        · have hkn : k = N := by omega
          subst hkn
          have HB := Lib.hid hbel
          clear hbel
          go_wp2
          go_ret
          exact ⟨rfl, HB.out⟩
    · go_enter Try.func3, Try.ntmps3
      go_wp2_with fail
      refine (split_ok (Own.start _) s z h60' hn1 hn2).mono ?_
      rintro e w' ⟨v', rfl, hown⟩
      obtain ⟨b, off, cap, rfl, hcap1, hcap2, hc⟩ := split_cell hn1 hown
      rw [← HN.out] at hcap1 hc ⊢
      have hbel := hown.below
      have HC := Lib.hid hc
      clear hc hown
      go_wp2_with fail
      go_loop [8] (fun i => ∃ k : Nat, k ≤ 1 ∧ i = .int .i64 k) (fun i => 1 - (intOf i).toNat)
      case atStart => exact ⟨0, Nat.zero_le _, rfl⟩
      case round =>
        obtain ⟨k, hk, rfl⟩ := hrel
        by_cases hlt : k < 1
        · obtain ⟨c1, c2, t, ht, c3⟩ := HC.out k hlt
          have HT := Lib.hid ht
          clear ht
          by_cases hlast : k + 1 < 1
          · have hfull : ((t.size : Int) != (z : Int)) = false := by have := HT.out hlast; simp <;> omega
            have hlast' : (k : Int) < (1 : Nat) - 1 := by omega
            go_wp2
            all_goals refine ⟨⟨k + 1, by omega, by go_num⟩, ?_⟩
            all_goals simp [intOf] <;> omega
          · have hlast' : ¬ (k : Int) < (1 : Nat) - 1 := by omega
            go_wp2
            refine ⟨⟨k + 1, by omega, by go_num⟩, ?_⟩
            simp [intOf] <;> omega
        · have hkn : k = 1 := by omega
          subst hkn
          have HB := Lib.hid hbel
          clear hbel
          go_wp2
          go_ret
          exact ⟨rfl, HB.out⟩
end Go.Proofs.Ytddbjcpfgjcmnaa
