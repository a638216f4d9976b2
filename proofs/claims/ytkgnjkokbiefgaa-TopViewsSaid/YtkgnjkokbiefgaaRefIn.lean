/- The reference's In: is a number in a list. -/
import Derived.Test.YtkgnjkokbiefgaaSet
namespace Go.Proofs.Ytkgnjkokbiefgaa
set_option linter.unusedVariables false
set_option linter.unusedSimpArgs false
open Go.RowKit
set_option maxRecDepth 100000 in
set_option maxHeartbeats 4000000 in
theorem refIn_any (v : Value) (l : List Int) (x : Int) (w : World) (hl : Ints w v l) :
    Calls Try.prog 49 #[v, .int .i64 x] w fun e w' => e = .returned (.bool (decide (x ∈ l))) ∧ w = w' := by
  obtain ⟨ad, cap, rfl, hlc, hcap⟩ := hl.shape
  have HL := Lib.hid hl
  clear hl
  go_enter Try.func49, Try.ntmps49
  go_wp2_with fail
  go_loop [5] (fun i => ∃ k : Nat, k ≤ l.length ∧ i = .int .i64 k ∧ Hid (x ∉ l.take k)) (fun i => l.length - (intOf i).toNat)
  case atStart => exact ⟨0, Nat.zero_le _, rfl, Lib.hid (by simp)⟩
  case round =>
    obtain ⟨k, hk, rfl, hp⟩ := hrel
    by_cases hlt : k < l.length
    rotate_left
    · have hx : decide (x ∈ l) = false := by
        have := hp.out
        rw [List.take_of_length_le (by omega)] at this
        simpa using this
      have HX := Lib.hid hx
      clear hx
      go_wp2
      go_ret
      exact ⟨by rw [HX.out]; rfl, rfl⟩
    obtain ⟨aa, rfl, hca⟩ := HL.out.at k hlt
    by_cases he : l[k] = x
    · have t1 : (l[k] == x) = true := by rw [beq_iff_eq]; exact he
      have hx : decide (x ∈ l) = true := by rw [← he]; simp
      have HX := Lib.hid hx; have HE := Lib.hid he
      clear hx he
      go_wp2
      go_ret
      exact ⟨by rw [HX.out]; rfl, rfl⟩
    · have t1 : (l[k] == x) = false := by rw [beq_eq_false_iff_ne]; exact he
      have hn : x ∉ l.take (k + 1) := by
        rw [List.take_succ_eq_append_getElem hlt]
        intro h
        rcases List.mem_append.1 h with h | h
        · exact hp.out h
        · simp at h; exact he h.symm
      have HN := Lib.hid hn; have HE := Lib.hid he
      clear hn he
      go_wp2
      go_round
      case rel => exact ⟨k + 1, by omega, by go_num, HN⟩
      case measure => simp [intOf]; omega
end Go.Proofs.Ytkgnjkokbiefgaa
