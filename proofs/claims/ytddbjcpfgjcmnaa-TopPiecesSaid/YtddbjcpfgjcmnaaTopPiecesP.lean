/- TopPieces, plainly: the pieces of a text as a row of bytes; the pieces twice, and back to front. -/
import Derived.Test.YtddbjcpfgjcmnaaPiecesBackP
import Derived.Test.YtddbjcpfgjcmnaaPcs
namespace Go.Proofs.Ytddbjcpfgjcmnaa
set_option linter.unusedVariables false
set_option linter.unusedSimpArgs false
open Go.RowKit Go.Maps
section
variable {t : ByteArray} {z n : Nat} {f g : Nat → Bool} {c N : Nat} {m : List (Int × ByteArray)}
theorem PB.congr (h : PB t z n f c N m) (hfg : ∀ k, k < n → f k = g k) : PB t z n g c N m where
  get k hk := by rw [← hfg k hk]; exact h.get k hk
  small := h.small
  num := h.num
  cnt := by
    rw [h.cnt]
    unfold cntB
    refine List.countP_congr fun k hk => ?_
    rw [hfg k (List.mem_range.1 hk)]
/-- Round r, all from j on are there. -/
def tpF (r j : Nat) : Nat → Bool := fun k => decide (r ≠ 0 ∨ j ≤ k)
def tpC (r n j : Nat) : Nat := if r = 0 then n - j else n
theorem tp_start (t : ByteArray) (z n : Nat) : PB t z n (tpF 0 n) (tpC 0 n n) 0 [] := by
  have h1 := (pb_start t z n).congr (g := tpF 0 n) (fun k hk => by unfold tpF; rw [eq_comm, decide_eq_false_iff_not]; omega)
  unfold tpC
  rw [if_pos rfl, Nat.sub_self]
  exact h1
theorem tp_round {r : Nat} (h : PB t z n (tpF r 0) (tpC r n 0) N m) : PB t z n (tpF (r + 1) n) (tpC (r + 1) n n) N m := by
  have h1 := h.congr (g := tpF (r + 1) n) (fun k hk => by unfold tpF; rw [decide_eq_true (by omega), decide_eq_true (by omega)])
  unfold tpC at h1 ⊢
  rw [if_neg (by omega)]
  by_cases h0 : r = 0
  · rw [if_pos h0] at h1; exact h1
  · rw [if_neg h0] at h1; exact h1
theorem tp_new {r j : Nat} (h : PB t z n (tpF r (j + 1)) (tpC r n (j + 1)) N m) (hj : j < n) : (mget m (splitAt t z j).at').isNone = decide (r = 0) := by
  rw [h.new hj]
  unfold tpF
  by_cases h0 : r = 0
  · subst h0
    rw [decide_eq_false (by omega)]; rfl
  · rw [decide_eq_true (Or.inl h0), decide_eq_false h0]; rfl
theorem tp_step {r j : Nat} (h : PB t z n (tpF r (j + 1)) (tpC r n (j + 1)) N m) (ht : t.size ≤ 60) (hz1 : 1 ≤ z) (hz : z ≤ 12) (hn : n = splitN t.size z) (hj : j < n) :
    PB t z n (tpF r j) (tpC r n j) (joN N m (splitAt t z j)) (joM N m (splitAt t z j)) := by
  have h1 := (h.step ht hz1 hz hn hj).congr (g := tpF r j) (fun k hk => by
    unfold updB tpF
    by_cases hkj : k = j
    · rw [if_pos hkj, decide_eq_true (by omega)]
    · rw [if_neg hkj]
      by_cases hc : r ≠ 0 ∨ j ≤ k
      · rw [decide_eq_true hc, decide_eq_true (by omega)]
      · rw [decide_eq_false hc, decide_eq_false (by omega)])
  have h2 : (if tpF r (j + 1) j = true then tpC r n (j + 1) else tpC r n (j + 1) + 1) = tpC r n j := by
    unfold tpF tpC
    by_cases h0 : r = 0
    · subst h0
      rw [decide_eq_false (by omega), if_neg (by simp), if_pos rfl, if_pos rfl]
      omega
    · rw [decide_eq_true (Or.inl h0), if_pos rfl, if_neg h0, if_neg h0]
  rw [h2] at h1
  exact h1
theorem tp_end {r : Nat} (h : PB t z n (tpF (r + 1) n) (tpC (r + 1) n n) N m) (hz1 : 1 ≤ z) (hn : n = splitN t.size z) : joFull N m = true ∧ joText N m = t := by
  have hc : tpC (r + 1) n n = n := by unfold tpC; rw [if_neg (by omega)]
  have hn1 : 1 ≤ n := by rw [hn]; unfold splitN; omega
  exact ⟨(h.full hc hn1).1, h.text hc hz1 hn⟩
end
theorem split_ok_row (t : ByteArray) (z : Nat) (ht : t.size ≤ 60) (hz1 : 1 ≤ z) (hz : z ≤ 12) : rowErr (splitOf t z) = 0 := by
  have hl : (splitOf t z).length = splitN t.size z := by simp [splitOf]
  have h60 := splitN_le t.size z ht hz1
  unfold rowErr
  rw [if_neg (by omega), if_neg]
  rw [Bool.not_eq_false]
  unfold rowOk splitOf
  rw [List.all_eq_true]
  intro p hp
  obtain ⟨k, hk, rfl⟩ := List.mem_map.1 hp
  exact split_right ht hz1 hz rfl (List.mem_range.1 hk)
theorem row_take (t : ByteArray) (z : Nat) : ∀ k, k ≤ splitN t.size z → (rowTo ((splitOf t z).take k)).size = 3 * k + (t.data.toList.take (k * z)).length
  | 0, _ => by rw [Nat.zero_mul]; rfl
  | k + 1, hk => by
    have hl : k < (splitOf t z).length := by simp [splitOf]; omega
    have hg : (splitOf t z)[k] = splitAt t z k := by simp [splitOf]
    rw [rowTo_next hl, hg, ByteArray.size_append, ByteArray.size_append, row_take t z k (by omega)]
    have h1 : (splitAt t z k).text.size = ((t.data.toList.drop (k * z)).take z).length := by rw [← piece_list, Array.length_toList]; rfl
    rw [h1, show (pcHd (splitAt t z k)).size = 3 from rfl, Nat.add_mul, Nat.one_mul, List.take_add, List.length_append]
    omega
theorem split_row_size (t : ByteArray) (z : Nat) (ht : t.size ≤ 60) (hz1 : 1 ≤ z) (hz : z ≤ 12) : (rowS (splitOf t z)).size = t.size + 3 * splitN t.size z := by
  unfold rowS
  rw [if_pos (split_ok_row t z ht hz1 hz)]
  have h1 := row_take t z _ (Nat.le_refl _)
  have hl : (splitOf t z).length = splitN t.size z := by simp [splitOf]
  rw [List.take_of_length_le (by omega)] at h1
  rw [h1, List.take_of_length_le, Array.length_toList]
  · show 3 * splitN t.size z + t.size = _
    omega
  · rw [Array.length_toList]
    show t.size ≤ splitN t.size z * z
    unfold splitN
    have : t.size ≤ ((t.size + z - 1) / z) * z := by
      have h3 := Nat.div_add_mod (t.size + z - 1) z
      have h4 := Nat.mod_lt (t.size + z - 1) (by omega : 0 < z)
      rw [Nat.mul_comm] at h3
      omega
    refine Nat.le_trans this (Nat.mul_le_mul_right _ (by omega))
end Go.Proofs.Ytddbjcpfgjcmnaa
