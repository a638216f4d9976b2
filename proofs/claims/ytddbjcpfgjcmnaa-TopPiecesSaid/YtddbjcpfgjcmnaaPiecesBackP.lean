/- PiecesBack, plainly: all pieces of a text, in whatever order, joined are the text. -/
import Derived.Test.YtddbjcpfgjcmnaaJoin3
namespace Go.Proofs.Ytddbjcpfgjcmnaa
set_option linter.unusedVariables false
set_option linter.unusedSimpArgs false
open Go.RowKit Go.Maps
def updB (f : Nat → Bool) (k : Nat) : Nat → Bool := fun i => if i = k then true else f i
def cntB (f : Nat → Bool) (n : Nat) : Nat := (List.range n).countP f
theorem cntB_succ (f : Nat → Bool) (n : Nat) : cntB f (n + 1) = cntB f n + (if f n = true then 1 else 0) := by
  unfold cntB
  rw [List.range_succ, List.countP_append]
  simp [List.countP_cons]
theorem cntB_le (f : Nat → Bool) : ∀ n, cntB f n ≤ n
  | 0 => Nat.le_refl _
  | n + 1 => by rw [cntB_succ]; have := cntB_le f n; split <;> omega
theorem cntB_out {f : Nat → Bool} {k : Nat} : ∀ {n}, n ≤ k → cntB (updB f k) n = cntB f n
  | 0, _ => rfl
  | n + 1, h => by
    have : updB f k n = f n := by unfold updB; exact if_neg (by omega)
    rw [cntB_succ, cntB_succ, cntB_out (by omega), this]
theorem cntB_upd {f : Nat → Bool} {k : Nat} : ∀ {n}, k < n → cntB (updB f k) n = cntB f n + (if f k = true then 0 else 1)
  | n + 1, h => by
    rw [cntB_succ, cntB_succ]
    by_cases hk : k = n
    · subst hk
      have : updB f k k = true := by unfold updB; exact if_pos rfl
      rw [cntB_out (Nat.le_refl _), this, if_pos rfl]
      by_cases hf : f k = true
      · rw [if_pos hf, if_pos hf]
      · rw [if_neg hf, if_neg hf]
    · rw [cntB_upd (f := f) (n := n) (show k < n by omega)]
      have : updB f k n = f n := by unfold updB; rw [if_neg (fun e => hk e.symm)]
      rw [this]
      omega
theorem cntB_all {f : Nat → Bool} : ∀ {n}, cntB f n = n → ∀ k, k < n → f k = true
  | n + 1, h, k, hk => by
    rw [cntB_succ] at h
    have := cntB_le f n
    by_cases hf : f n = true
    · rw [if_pos hf] at h
      by_cases hkn : k = n
      · rw [hkn, hf]
      · exact cntB_all (f := f) (n := n) (by omega) k (by omega)
    · rw [if_neg hf] at h; omega
structure PB (t : ByteArray) (z n : Nat) (f : Nat → Bool) (c N : Nat) (m : List (Int × ByteArray)) : Prop where
  get : ∀ k, k < n → mget m (k : Int) = if f k = true then some (splitAt t z k).text else none
  small : joSmall m
  num : N = if c = 0 then 0 else n
  cnt : c = cntB f n
theorem pb_start (t : ByteArray) (z n : Nat) : PB t z n (fun _ => false) 0 0 [] where
  get k _ := rfl
  small := joSmall_nil
  num := rfl
  cnt := by unfold cntB; simp
theorem split_size (t : ByteArray) (z k : Nat) (hz : z ≤ 12) : (splitAt t z k).text.size ≤ 12 := by
  unfold splitAt
  simp only [ByteArray.size_extract]
  rw [Nat.add_mul]
  omega
section
variable {t : ByteArray} {z n : Nat} {f : Nat → Bool} {c N : Nat} {m : List (Int × ByteArray)}
theorem split_right (ht : t.size ≤ 60) (hz1 : 1 ≤ z) (hz : z ≤ 12) (hn : n = splitN t.size z) {k : Nat} (hk : k < n) : pcRight (splitAt t z k) = true := by
  have h1 := split_size t z k hz
  have h2 := splitN_le t.size z ht hz1
  unfold pcRight splitAt
  unfold splitAt at h1
  simp only at h1
  rw [← hn] at h2
  simp only [← hn, Bool.and_eq_true, decide_eq_true_eq]
  omega
theorem PB.err (h : PB t z n f c N m) (ht : t.size ≤ 60) (hz1 : 1 ≤ z) (hz : z ≤ 12) (hn : n = splitN t.size z) {k : Nat} (hk : k < n) : joErr N m (splitAt t z k) = 0 := by
  have hr := split_right ht hz1 hz hn hk
  have hof : (splitAt t z k).of = (n : Int) := by unfold splitAt; rw [hn]
  have hat : (splitAt t z k).at' = (k : Int) := rfl
  unfold joErr
  rw [if_neg (by simp [hr]), if_neg, if_neg]
  · unfold joBad
    rw [hat, h.get k hk]
    by_cases hf : f k = true
    · simp [hf]
    · simp [hf]
  · rw [hof, h.num]
    rintro ⟨h1, h2⟩
    by_cases hc : c = 0
    · rw [if_pos hc] at h1; exact h1 rfl
    · rw [if_neg hc] at h2; exact h2 rfl
theorem PB.new (h : PB t z n f c N m) {k : Nat} (hk : k < n) : (mget m (splitAt t z k).at').isNone = !f k := by
  rw [show (splitAt t z k).at' = (k : Int) from rfl, h.get k hk]
  by_cases hf : f k = true
  · simp [hf]
  · simp [hf]
theorem PB.step (h : PB t z n f c N m) (ht : t.size ≤ 60) (hz1 : 1 ≤ z) (hz : z ≤ 12) (hn : n = splitN t.size z) {k : Nat} (hk : k < n) :
    PB t z n (updB f k) (if f k = true then c else c + 1) (joN N m (splitAt t z k)) (joM N m (splitAt t z k)) := by
  have he := h.err ht hz1 hz hn hk
  have hof : (splitAt t z k).of = (n : Int) := by unfold splitAt; rw [hn]
  have hcp : 0 < if f k = true then c else c + 1 := by
    by_cases hf : f k = true
    · rw [if_pos hf, h.cnt]
      rcases Nat.eq_zero_or_pos (cntB f n) with h0 | h0
      · exfalso
        have h1 : ¬ cntB f n = 0 := by
          unfold cntB
          rw [List.countP_eq_zero]
          intro h2
          exact h2 k (List.mem_range.2 hk) hf
        exact h1 h0
      · exact h0
    · rw [if_neg hf]; omega
  refine ⟨fun i hi => ?_, ?_, ?_, ?_⟩
  · unfold joM
    rw [if_pos he, mget_mput, show (splitAt t z k).at' = (k : Int) from rfl]
    unfold updB
    by_cases hik : i = k
    · subst hik
      rw [if_pos rfl, if_pos rfl, if_pos rfl]
    · rw [if_neg (by omega), if_neg hik, h.get i hi]
  · unfold joM
    rw [if_pos he]
    exact joSmall_put h.small _ _ (split_size t z k hz)
  · unfold joN
    rw [if_pos he, hof, if_neg (by omega)]
    rfl
  · rw [cntB_upd hk, ← h.cnt]
    split <;> omega
theorem joLacks_cnt (h : PB t z n f c N m) : (joLacks n m).length = n - c := by
  have key : ∀ j, j ≤ n → (joLacks j m).length + cntB f j = j := by
    intro j
    induction j with
    | zero => intro _; rfl
    | succ j ih =>
      intro hj
      have h1 := ih (by omega)
      rw [cntB_succ]
      unfold joLacks at h1 ⊢
      rw [memJ_snoc, List.filter_append, List.length_append, List.filter_cons, List.filter_nil, h.get j (by omega)]
      by_cases hf : f j = true
      · simp [hf] at h1 ⊢; omega
      · simp [hf] at h1 ⊢; omega
  have := key n (Nat.le_refl _)
  rw [h.cnt]
  omega
theorem PB.lacks (h : PB t z n f c N m) (hc : c ≠ 0) : (joLacks N m).length = n - c := by
  rw [h.num, if_neg hc]
  exact joLacks_cnt h
theorem PB.notFull (h : PB t z n f c N m) (hc : c < n) : joFull N m = false := by
  unfold joFull
  by_cases h0 : c = 0
  · rw [h.num, if_pos h0]; rfl
  · have := h.lacks h0
    cases hl : joLacks N m with
    | nil => rw [hl] at this; simp at this; omega
    | cons x r => simp
theorem PB.full (h : PB t z n f c N m) (hc : c = n) (hn : 1 ≤ n) : joFull N m = true ∧ (joLacks N m).length = 0 ∧ N = n := by
  have h1 := h.lacks (by omega)
  have h2 : N = n := by rw [h.num, if_neg (by omega)]
  refine ⟨?_, by omega, h2⟩
  unfold joFull
  rw [List.eq_nil_of_length_eq_zero (by omega : (joLacks N m).length = 0), decide_eq_true (by omega)]
  rfl
theorem piece_list (t : ByteArray) (z k : Nat) : (splitAt t z k).text.data.toList = (t.data.toList.drop (k * z)).take z := by
  have hs : t.size = t.data.toList.length := by rw [Array.length_toList]; rfl
  unfold splitAt
  simp only [ByteArray.data_extract, Array.toList_extract, List.extract_eq_take_drop]
  rw [hs, Nat.add_mul]
  rcases Nat.le_total (k * z + 1 * z) t.data.toList.length with h | h
  · rw [Nat.min_eq_right h]
    congr 1
    omega
  · rw [Nat.min_eq_left h, List.take_of_length_le (by rw [List.length_drop]; omega), List.take_of_length_le (by rw [List.length_drop]; omega)]
theorem PB.cat (h : PB t z n f c N m) (hc : c = n) : ∀ k, k ≤ n → joCat m k = t.data.toList.take (k * z)
  | 0, _ => by rw [Nat.zero_mul]; rfl
  | k + 1, hk => by
    rw [joCat_snoc, h.cat hc k (by omega)]
    have hf := cntB_all (f := f) (n := n) (by rw [← h.cnt, hc]) k (by omega)
    unfold joGet
    rw [h.get k (by omega), if_pos hf, Option.getD_some, piece_list, Nat.add_mul, Nat.one_mul, List.take_add]
theorem PB.text (h : PB t z n f c N m) (hc : c = n) (hz1 : 1 ≤ z) (hn : n = splitN t.size z) : joText N m = t := by
  have hn1 : 1 ≤ n := by rw [hn]; unfold splitN; omega
  obtain ⟨h1, _, h2⟩ := h.full hc hn1
  unfold joText
  rw [if_pos h1, h2, h.cat hc n (Nat.le_refl _), List.take_of_length_le]
  rw [Array.length_toList]
  show t.size ≤ n * z
  rw [hn]
  unfold splitN
  have : t.size ≤ ((t.size + z - 1) / z) * z := by
    have h3 := Nat.div_add_mod (t.size + z - 1) z
    have h4 := Nat.mod_lt (t.size + z - 1) (by omega : 0 < z)
    rw [Nat.mul_comm] at h3
    omega
  refine Nat.le_trans this (Nat.mul_le_mul_right _ (by omega))
end
end Go.Proofs.Ytddbjcpfgjcmnaa
