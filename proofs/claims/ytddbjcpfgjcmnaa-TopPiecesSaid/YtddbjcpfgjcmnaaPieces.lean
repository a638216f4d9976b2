/- Contracts of package pieces: Split. -/
import Derived.Test.YtddbjcpfgjcmnaaVec
namespace Go.Proofs.Ytddbjcpfgjcmnaa
set_option linter.unusedVariables false
set_option linter.unusedSimpArgs false
open Go.RowKit
structure Pc where
  at' : Int
  of : Int
  text : ByteArray
def pcCells (p : Pc) : List Value := [.int .i64 p.at', .int .i64 p.of, .string p.text]
def PcSl (v : Value) (l : List Pc) : HProp := Sl 28 3 v l.length (l.flatMap pcCells)
theorem pc_len (l : List Pc) : (l.flatMap pcCells).length = l.length * 3 := by
  induction l with
  | nil => rfl
  | cons x r ih => simp [List.flatMap_cons, pcCells] at ih ⊢; omega
theorem pc_get : ∀ (l : List Pc) (k j : Nat) (hk : k < l.length) (_hj : j < 3), (l.flatMap pcCells)[k * 3 + j]? = (pcCells l[k])[j]?
  | x :: r, 0, j, _, hj => by
    rw [List.flatMap_cons, List.getElem?_append_left (by simp [pcCells]; omega)]; simp
  | x :: r, k + 1, j, hk, hj => by
    rw [List.flatMap_cons, List.getElem?_append_right (by simp [pcCells]; omega)]
    rw [show (k + 1) * 3 + j - (pcCells x).length = k * 3 + j from by simp [pcCells]; omega]
    exact pc_get r k j (by simpa using hk) hj
theorem info_pc : (Try.prog.info? 28).map (fun i => (i.zero, i.size, i.bytes)) = some (some (.agg #[.int .i64 0, .int .i64 0, .string ⟨#[]⟩]), 3, 32) := by kernel_rfl
theorem pc_one (l : List Pc) : ∀ u ∈ l.flatMap pcCells, u.oneCell' = true := by
  intro u hu
  obtain ⟨p, _, hp⟩ := List.mem_flatMap.1 hu
  simp [pcCells] at hp
  rcases hp with rfl | rfl | rfl <;> rfl
/-- How many pieces. -/
def splitN (len z : Nat) : Nat := max 1 ((len + z - 1) / z)
def splitAt (s : ByteArray) (z k : Nat) : Pc := ⟨k, splitN s.size z, s.extract (k * z) (min s.size ((k + 1) * z))⟩
def splitOf (s : ByteArray) (z : Nat) : List Pc := (List.range (splitN s.size z)).map (splitAt s z)
theorem splitN_le (len z : Nat) (hl : len ≤ 60) (hz : 1 ≤ z) : splitN len z ≤ 60 := by
  have : (len + z - 1) / z ≤ 60 := by
    rw [Nat.div_le_iff_le_mul_add_pred (by omega)]
    have : 60 * 1 ≤ z * 60 := by rw [Nat.mul_comm z 60]; exact Nat.mul_le_mul_left 60 hz
    omega
  unfold splitN; omega
/-- Within a piece's place the text is not at its end. -/
theorem split_in (len z k : Nat) (hz : 1 ≤ z) (hk : k < splitN len z) : k * z ≤ len := by
  unfold splitN at hk
  rcases Nat.eq_zero_or_pos k with rfl | hp
  · simp
  · have h1 : k < (len + z - 1) / z := by omega
    have h2 : (k + 1) * z ≤ len + z - 1 := by
      have := (Nat.le_div_iff_mul_le (by omega : 0 < z)).1 h1
      exact this
    rw [Nat.add_mul] at h2; omega
set_option maxHeartbeats 400000 in
theorem split_long (s : ByteArray) (size : Int) (w : World) (hm : s.size ≤ 9223372036854775807) (h : 60 < s.size) :
    Calls Try.prog 5 #[.string s, .int .i64 size] w fun e w' => e = .returned (.tuple #[.slice none 0 0, errV 4]) ∧ w = w' := by
  go_enter Try.func5, Try.ntmps5
  go_wp2
  go_ret2
  exact ⟨rfl, rfl⟩
set_option maxHeartbeats 400000 in
theorem split_range (s : ByteArray) (size : Int) (w : World) (h : s.size ≤ 60) (hz : size < 1 ∨ 12 < size) :
    Calls Try.prog 5 #[.string s, .int .i64 size] w fun e w' => e = .returned (.tuple #[.slice none 0 0, errV 1]) ∧ w = w' := by
  have h' : ¬ 60 < s.size := by omega
  rcases hz with hz | hz
  · go_enter Try.func5, Try.ntmps5
    go_wp2
    go_ret2
    exact ⟨rfl, rfl⟩
  · have hz' : ¬ size < 1 := by omega
    go_enter Try.func5, Try.ntmps5
    go_wp2
    go_ret2
    exact ⟨rfl, rfl⟩
theorem pc_snoc {w0 w : World} {R : HProp} {v : Value} {l : List Pc} {p : Pc} {cs : List Value} (hc : cs = pcCells p) (h : Own w0 (Sl 28 3 v (l.length + 1) (l.flatMap pcCells ++ cs) * R) w) : Own w0 (PcSl v (l ++ [p]) * R) w := by
  subst hc
  unfold PcSl
  simpa [List.flatMap_append] using h
theorem split_succ (s : ByteArray) (z k : Nat) : (List.range (k + 1)).map (splitAt s z) = (List.range k).map (splitAt s z) ++ [splitAt s z k] := by
  rw [List.range_succ, List.map_append]; rfl
set_option maxRecDepth 100000 in
set_option maxHeartbeats 2000000 in
theorem split_ok {w0 w : World} {R : HProp} (ho : Own w0 R w) (s : ByteArray) (z : Nat) (h : s.size ≤ 60) (h1 : 1 ≤ z) (h2 : z ≤ 12) :
    Calls Try.prog 5 #[.string s, .int .i64 z] w fun e w' => ∃ v', e = .returned (.tuple #[v', .nilIface]) ∧ Own w0 (PcSl v' (splitOf s z) * R) w' := by
  have HO := Lib.hid ho
  clear ho
  obtain ⟨N, hN⟩ : ∃ N, N = splitN s.size z := ⟨_, rfl⟩
  have hN1 : 1 ≤ N := by rw [hN]; unfold splitN; omega
  have hN60 : N ≤ 60 := by rw [hN]; exact splitN_le _ _ h h1
  have hin : ∀ k, k < N → k * z ≤ s.size := fun k hk => split_in _ _ _ h1 (hN ▸ hk)
  have hq : (((s.size : Int) + z - 1) / z = N ∧ 1 < N) ∨ (((s.size : Int) + z - 1) / z = 1 ∧ N = 1) ∨ (((s.size : Int) + z - 1) / z = 0 ∧ N = 1) := by
    have e : ((s.size : Int) + z - 1) / z = (((s.size + z - 1) / z : Nat) : Int) := by
      rw [show ((s.size : Int) + z - 1) = ((s.size + z - 1 : Nat) : Int) from by omega, Int.natCast_ediv]
    rw [e, hN]; unfold splitN
    generalize (s.size + z - 1) / z = q
    omega
  have HN := Lib.hid hN
  have HIN := Lib.hid hin
  clear hin hN
  have hd1 : decide ((60 : Int) < (s.size : Int)) = false := by simp; omega
  have hd2 : decide ((12 : Int) < (z : Int)) = false := by simp; omega
  have hd3 : decide ((z : Int) < 1) = false := by simp; omega
  rcases hq with ⟨hq, hq2⟩ | ⟨hq, rfl⟩ | ⟨hq, rfl⟩
  · have hmx : decide ((1 : Int) < (N : Int)) = true := by simp; omega
    go_enter Try.func5, Try.ntmps5
    go_wp2_with fail
    go_loopw [7, 31] (fun v i wr => ∃ k : Nat, k ≤ N ∧ i = .int .i64 k ∧ Hid (Own w0 (PcSl v ((List.range k).map (splitAt s z)) * R) wr)) (fun _ i _ => N - (intOf i).toNat)
    case atStart => exact ⟨0, Nat.zero_le _, rfl, HO.out.sl_nil _ _⟩
    case round =>
      obtain ⟨k, hk, rfl, hp⟩ := hrel
      by_cases hlt : k < N
      · have hkz := HIN.out k hlt
        have hm1 : (0 : Int) ≤ (k : Int) * z := by exact_mod_cast Nat.zero_le _
        have hm2 : (k : Int) * z ≤ s.size := by exact_mod_cast hkz
        have hm3 : ((k : Int) + 1) * z = (k : Int) * z + z := by rw [Int.add_mul, Int.one_mul]
        have HM3 := Lib.hid hm3
        have hm4 : ((k : Int) + 1) * z ≤ 72 := by omega
        have hm5 : (0 : Int) ≤ ((k : Int) + 1) * z := by omega
        have hm6 : (k : Int) * z ≤ ((k : Int) + 1) * z := by omega
        have hm7 : k * z ≤ (k + 1) * z := Nat.mul_le_mul_right _ (Nat.le_succ _)
        clear hm3
        have HP := Lib.hid hp.out
        clear hp
        by_cases hmin : ((k : Int) + 1) * z < s.size
        · have hmin' : (k + 1) * z < s.size := by exact_mod_cast hmin
          go_wp2_with (at_builtin; refine wpList_app rfl _ _ 22 rfl 28 3 32 _ info_pc Try.underlying22 rfl (by decide) rfl (HP.out.alloc' _) rfl (by rfl) (Rd_lit rfl (by unfold maxLen; omega)) (by intro u hu; simp at hu; rcases hu with rfl | rfl | rfl <;> rfl) (by unfold maxLen; simp; omega) (by simp; omega) ?_; intro v' w1 hown')
          have H1 := Lib.hid (show Own w0 (PcSl v' ((List.range (k + 1)).map (splitAt s z)) * R) w1 from by
            rw [split_succ]
            refine pc_snoc ?_ hown'
            simp only [pcCells, splitAt, ← HN.out]
            rw [Nat.min_eq_right (Nat.le_of_lt hmin')]; first | done | rfl)
          clear hown'
          go_wp2
          refine ⟨⟨_, _, _, ⟨k + 1, by omega, by go_num, H1.out⟩, rfl, rfl, rfl⟩, ?_⟩
          simp [intOf]; omega
        · have hmin' : s.size ≤ (k + 1) * z := by
            have : (s.size : Int) ≤ ((k : Int) + 1) * z := by omega
            exact_mod_cast this
          go_wp2_with (at_builtin; refine wpList_app rfl _ _ 22 rfl 28 3 32 _ info_pc Try.underlying22 rfl (by decide) rfl (HP.out.alloc' _) rfl (by rfl) (Rd_lit rfl (by unfold maxLen; omega)) (by intro u hu; simp at hu; rcases hu with rfl | rfl | rfl <;> rfl) (by unfold maxLen; simp; omega) (by simp; omega) ?_; intro v' w1 hown')
          have H1 := Lib.hid (show Own w0 (PcSl v' ((List.range (k + 1)).map (splitAt s z)) * R) w1 from by
            rw [split_succ]
            refine pc_snoc ?_ hown'
            simp only [pcCells, splitAt, ← HN.out]
            rw [Nat.min_eq_left hmin']; first | done | rfl)
          clear hown'
          go_wp2
          refine ⟨⟨_, _, _, ⟨k + 1, by omega, by go_num, H1.out⟩, rfl, rfl, rfl⟩, ?_⟩
          simp [intOf]; omega
      · have hkn : k = N := by omega
        subst hkn
        have H1 := Lib.hid hp.out
        clear hp
        go_wp2
        go_ret2
        exact ⟨_, rfl, by unfold splitOf; rw [← HN.out]; exact H1.out⟩
  · go_enter Try.func5, Try.ntmps5
    go_wp2_with fail
    go_loopw [7, 31] (fun v i wr => ∃ k : Nat, k ≤ 1 ∧ i = .int .i64 k ∧ Hid (Own w0 (PcSl v ((List.range k).map (splitAt s z)) * R) wr)) (fun _ i _ => 1 - (intOf i).toNat)
    case atStart => exact ⟨0, Nat.zero_le _, rfl, HO.out.sl_nil _ _⟩
    case round =>
      obtain ⟨k, hk, rfl, hp⟩ := hrel
      by_cases hlt : k < 1
      · have hkz := HIN.out k hlt
        have hm1 : (0 : Int) ≤ (k : Int) * z := by exact_mod_cast Nat.zero_le _
        have hm2 : (k : Int) * z ≤ s.size := by exact_mod_cast hkz
        have hm3 : ((k : Int) + 1) * z = (k : Int) * z + z := by rw [Int.add_mul, Int.one_mul]
        have HM3 := Lib.hid hm3
        have hm4 : ((k : Int) + 1) * z ≤ 72 := by omega
        have hm5 : (0 : Int) ≤ ((k : Int) + 1) * z := by omega
        have hm6 : (k : Int) * z ≤ ((k : Int) + 1) * z := by omega
        have hm7 : k * z ≤ (k + 1) * z := Nat.mul_le_mul_right _ (Nat.le_succ _)
        clear hm3
        have HP := Lib.hid hp.out
        clear hp
        by_cases hmin : ((k : Int) + 1) * z < s.size
        · have hmin' : (k + 1) * z < s.size := by exact_mod_cast hmin
          go_wp2_with (at_builtin; refine wpList_app rfl _ _ 22 rfl 28 3 32 _ info_pc Try.underlying22 rfl (by decide) rfl (HP.out.alloc' _) rfl (by rfl) (Rd_lit rfl (by unfold maxLen; omega)) (by intro u hu; simp at hu; rcases hu with rfl | rfl | rfl <;> rfl) (by unfold maxLen; simp; omega) (by simp; omega) ?_; intro v' w1 hown')
          have H1 := Lib.hid (show Own w0 (PcSl v' ((List.range (k + 1)).map (splitAt s z)) * R) w1 from by
            rw [split_succ]
            refine pc_snoc ?_ hown'
            simp only [pcCells, splitAt, ← HN.out]
            rw [Nat.min_eq_right (Nat.le_of_lt hmin')]; first | done | rfl)
          clear hown'
          go_wp2
          refine ⟨⟨_, _, _, ⟨k + 1, by omega, by go_num, H1.out⟩, rfl, rfl, rfl⟩, ?_⟩
          simp [intOf]; omega
        · have hmin' : s.size ≤ (k + 1) * z := by
            have : (s.size : Int) ≤ ((k : Int) + 1) * z := by omega
            exact_mod_cast this
          go_wp2_with (at_builtin; refine wpList_app rfl _ _ 22 rfl 28 3 32 _ info_pc Try.underlying22 rfl (by decide) rfl (HP.out.alloc' _) rfl (by rfl) (Rd_lit rfl (by unfold maxLen; omega)) (by intro u hu; simp at hu; rcases hu with rfl | rfl | rfl <;> rfl) (by unfold maxLen; simp; omega) (by simp; omega) ?_; intro v' w1 hown')
          have H1 := Lib.hid (show Own w0 (PcSl v' ((List.range (k + 1)).map (splitAt s z)) * R) w1 from by
            rw [split_succ]
            refine pc_snoc ?_ hown'
            simp only [pcCells, splitAt, ← HN.out]
            rw [Nat.min_eq_left hmin']; first | done | rfl)
          clear hown'
          go_wp2
          refine ⟨⟨_, _, _, ⟨k + 1, by omega, by go_num, H1.out⟩, rfl, rfl, rfl⟩, ?_⟩
          simp [intOf]; omega
      · have hkn : k = 1 := by omega
        subst hkn
        have H1 := Lib.hid hp.out
        clear hp
        go_wp2
        go_ret2
        exact ⟨_, rfl, by unfold splitOf; rw [← HN.out]; exact H1.out⟩
  · go_enter Try.func5, Try.ntmps5
    go_wp2_with fail
    go_loopw [7, 31] (fun v i wr => ∃ k : Nat, k ≤ 1 ∧ i = .int .i64 k ∧ Hid (Own w0 (PcSl v ((List.range k).map (splitAt s z)) * R) wr)) (fun _ i _ => 1 - (intOf i).toNat)
    case atStart => exact ⟨0, Nat.zero_le _, rfl, HO.out.sl_nil _ _⟩
    case round =>
      obtain ⟨k, hk, rfl, hp⟩ := hrel
      by_cases hlt : k < 1
      · have hkz := HIN.out k hlt
        have hm1 : (0 : Int) ≤ (k : Int) * z := by exact_mod_cast Nat.zero_le _
        have hm2 : (k : Int) * z ≤ s.size := by exact_mod_cast hkz
        have hm3 : ((k : Int) + 1) * z = (k : Int) * z + z := by rw [Int.add_mul, Int.one_mul]
        have HM3 := Lib.hid hm3
        have hm4 : ((k : Int) + 1) * z ≤ 72 := by omega
        have hm5 : (0 : Int) ≤ ((k : Int) + 1) * z := by omega
        have hm6 : (k : Int) * z ≤ ((k : Int) + 1) * z := by omega
        have hm7 : k * z ≤ (k + 1) * z := Nat.mul_le_mul_right _ (Nat.le_succ _)
        clear hm3
        have HP := Lib.hid hp.out
        clear hp
        by_cases hmin : ((k : Int) + 1) * z < s.size
        · have hmin' : (k + 1) * z < s.size := by exact_mod_cast hmin
          go_wp2_with (at_builtin; refine wpList_app rfl _ _ 22 rfl 28 3 32 _ info_pc Try.underlying22 rfl (by decide) rfl (HP.out.alloc' _) rfl (by rfl) (Rd_lit rfl (by unfold maxLen; omega)) (by intro u hu; simp at hu; rcases hu with rfl | rfl | rfl <;> rfl) (by unfold maxLen; simp; omega) (by simp; omega) ?_; intro v' w1 hown')
          have H1 := Lib.hid (show Own w0 (PcSl v' ((List.range (k + 1)).map (splitAt s z)) * R) w1 from by
            rw [split_succ]
            refine pc_snoc ?_ hown'
            simp only [pcCells, splitAt, ← HN.out]
            rw [Nat.min_eq_right (Nat.le_of_lt hmin')]; first | done | rfl)
          clear hown'
          go_wp2
          refine ⟨⟨_, _, _, ⟨k + 1, by omega, by go_num, H1.out⟩, rfl, rfl, rfl⟩, ?_⟩
          simp [intOf]; omega
        · have hmin' : s.size ≤ (k + 1) * z := by
            have : (s.size : Int) ≤ ((k : Int) + 1) * z := by omega
            exact_mod_cast this
          go_wp2_with (at_builtin; refine wpList_app rfl _ _ 22 rfl 28 3 32 _ info_pc Try.underlying22 rfl (by decide) rfl (HP.out.alloc' _) rfl (by rfl) (Rd_lit rfl (by unfold maxLen; omega)) (by intro u hu; simp at hu; rcases hu with rfl | rfl | rfl <;> rfl) (by unfold maxLen; simp; omega) (by simp; omega) ?_; intro v' w1 hown')
          have H1 := Lib.hid (show Own w0 (PcSl v' ((List.range (k + 1)).map (splitAt s z)) * R) w1 from by
            rw [split_succ]
            refine pc_snoc ?_ hown'
            simp only [pcCells, splitAt, ← HN.out]
            rw [Nat.min_eq_left hmin']; first | done | rfl)
          clear hown'
          go_wp2
          refine ⟨⟨_, _, _, ⟨k + 1, by omega, by go_num, H1.out⟩, rfl, rfl, rfl⟩, ?_⟩
          simp [intOf]; omega
      · have hkn : k = 1 := by omega
        subst hkn
        have H1 := Lib.hid hp.out
        clear hp
        go_wp2
        go_ret2
        exact ⟨_, rfl, by unfold splitOf; rw [← HN.out]; exact H1.out⟩
end Go.Proofs.Ytddbjcpfgjcmnaa
