/- Contracts of package vector, of what it calls in package slices, and of the lists' comparisons. -/
import Derived.Test.YtddbjcpfgjcmnaaBase
import Derived.Test.YtddbjcpfgjcmnaaProg
import Derived.BigQuiet
import Derived.Deep.QuietTactic
namespace Go.Proofs.Ytddbjcpfgjcmnaa
set_option linter.unusedVariables false
set_option linter.unusedSimpArgs false
open Go.RowKit
theorem ret_bool {a b : Bool} (h : a = b) : Ending.returned (.bool a) = .returned (.bool b) := by rw [h]
theorem ret_int {a b : Int} (h : a = b) : Ending.returned (.int .i64 a) = .returned (.int .i64 b) := by rw [h]
/-- An error: nil, or a number of api. -/
def errV : Nat → Value
  | 0 => .nilIface
  | n + 1 => .iface 38 (.int .i64 (n + 1))
theorem errV0 : errV 0 = .nilIface := rfl
theorem Ints.at {w : World} {ad : Option Addr} {n cap : Nat} {l : List Int} (h : Ints w (.slice ad n cap) l) (k : Nat) (hk : k < l.length) : ∃ a : Addr, ad = some a ∧ w.cell? (a.add k) = some (.int .i64 l[k]) := by
  obtain ⟨⟨ad', cap', e, _, _, _, hc⟩, _⟩ := h
  cases e
  exact hc k _ (by simp [hk])
theorem Ints.len {w : World} {ad : Option Addr} {n cap : Nat} {l : List Int} (h : Ints w (.slice ad n cap) l) : n = l.length := by
  obtain ⟨⟨ad', cap', e, _, _, _, hc⟩, _⟩ := h
  cases e; rfl
theorem Ints.shape {w : World} {v : Value} {l : List Int} (h : Ints w v l) : ∃ ad cap, v = .slice ad l.length cap ∧ l.length ≤ cap ∧ cap ≤ 9223372036854775807 := by
  obtain ⟨⟨ad', cap', e, h1, h2, _, hc⟩, _⟩ := h
  exact ⟨_, _, e, h1, by simpa [maxLen] using h2⟩
def isMember (n : Int) : Bool := decide (0 ≤ n) && decide (n < 5)
def isWord (n : Int) : Bool := decide (1 ≤ n) && decide (n ≤ 30)
def isCount (n : Int) : Bool := decide (0 ≤ n) && decide (n ≤ 1000000)
set_option maxHeartbeats 400000 in
theorem member_any (a : Int) (w : World) :
    Calls Try.prog 29 #[.int .i64 a] w fun e w' => e = .returned (.bool (isMember a)) ∧ w = w' := by
  go_enter Try.func29, Try.ntmps29
  go_wp2
  all_goals (go_ret; exact ⟨ret_bool (by unfold isMember; simp; try omega), rfl⟩)
set_option maxHeartbeats 400000 in
theorem word_any (a : Int) (w : World) :
    Calls Try.prog 30 #[.int .i64 a] w fun e w' => e = .returned (.bool (isWord a)) ∧ w = w' := by
  go_enter Try.func30, Try.ntmps30
  go_wp2
  all_goals (go_ret; exact ⟨ret_bool (by unfold isWord; simp; try omega), rfl⟩)
def isGroup (n : Int) : Bool := decide (2 ≤ n) && decide (n ≤ 5)
/-- Where the first one is for which p holds; -1: nowhere. -/
def whereIs (p : Int → Bool) : List Int → Int
  | [] => -1
  | x :: r => if p x then 0 else if whereIs p r < 0 then -1 else whereIs p r + 1
theorem whereIs_hit (p : Int → Bool) : ∀ (l : List Int) (k : Nat) (hk : k < l.length), (∀ j (h : j < k), p (l[j]'(by omega)) = false) → p l[k] = true → whereIs p l = k
  | [], k, hk, _, _ => by simp at hk
  | x :: r, 0, _, _, h => by simp at h; simp [whereIs, h]
  | x :: r, k + 1, hk, hj, h => by
    have h0 := hj 0 (by omega)
    simp at h0
    have ih := whereIs_hit p r k (by simpa using hk) (fun j hj' => by have := hj (j + 1) (by omega); simpa using this) (by simpa using h)
    simp [whereIs, h0, ih]; omega
theorem whereIs_miss (p : Int → Bool) : ∀ (l : List Int), (∀ j (h : j < l.length), p l[j] = false) → whereIs p l = -1
  | [], _ => rfl
  | x :: r, h => by
    have h0 := h 0 (by simp)
    simp at h0
    have ih := whereIs_miss p r (fun j hj => by have := h (j + 1) (by simpa using hj); simpa using this)
    simp [whereIs, h0, ih]
theorem whereIs_neg (p : Int → Bool) : ∀ (l : List Int), whereIs p l < 0 ↔ l.any p = false
  | [] => by simp [whereIs]
  | x :: r => by
    have ih := whereIs_neg p r
    unfold whereIs
    by_cases h : p x
    · simp [h]
    · simp only [h, List.any_cons, Bool.false_or, Bool.false_eq_true, if_false]
      split
      · rename_i h2; simp [ih.1 h2]
      · rename_i h2; constructor
        · intro h3; omega
        · intro h3; exact absurd (ih.2 h3) h2
theorem info_int : (Try.prog.info? 3).map (fun i => (i.zero, i.size, i.bytes)) = some (some (.int .i64 0), 1, 8) := by kernel_rfl
/-- An owned slice of ints. -/
def IntSl (v : Value) (l : List Int) : HProp := Sl 3 1 v l.length (l.map (Value.int .i64))
def vecErr (l : List Int) : Nat := if l.length ≠ 5 then 3 else if (l.any fun n => !isCount n) then 1 else 0
theorem vecErr0 {l : List Int} (h : vecErr l = 0) : l.length = 5 ∧ ∀ x ∈ l, 0 ≤ x ∧ x ≤ 1000000 := by
  unfold vecErr at h
  split at h
  · cases h
  · rename_i h1
    split at h
    · cases h
    · rename_i h2
      refine ⟨by omega, fun x hx => ?_⟩
      simp only [List.any_eq_true, not_exists, not_and, Bool.not_eq_true', Bool.not_eq_false] at h2
      have := h2 x hx
      simp only [isCount, Bool.and_eq_true, decide_eq_true_eq] at this
      exact this
theorem IntSl_reads {w0 : World} {R : HProp} {v : Value} {l : List Int} (hi : ∀ x ∈ l, I64 x) : Reads w0 (IntSl v l * R) v l := fun _ ho => ⟨Own.rd ho, hi⟩
/-- An owned list of ints: its row, its cells, a store. -/
theorem Own.ints_at {w0 w : World} {v : Value} {l : List Int} {R : HProp} (h : Own w0 (IntSl v l * R) w) (hl : 0 < l.length) :
    ∃ b off cap, v = .slice (some ⟨b, off, none⟩) l.length cap ∧ l.length ≤ cap ∧ cap ≤ maxLen ∧ (∀ i (h : i < l.length), w.cell? ⟨b, off + i, none⟩ = some (.int .i64 l[i])) ∧ (∀ i s, w.frozen? ⟨b, i, s⟩ = false) ∧ w0.heap.size ≤ b ∧ b < w.heap.size ∧
      ∀ i x, i < l.length → Own w0 (IntSl v (l.set i x) * R) (w.setCell ⟨b, off + i, none⟩ (.int .i64 x)) := by
  obtain ⟨b, off, cap, h1, h2, h3, h4, h5, h6, h7, h8⟩ := Own.sl_at h (by simpa using hl)
  refine ⟨b, off, cap, h1, h2, h3, fun i hi => h4 i _ (by simp [hi]), h5, h6, h7, fun i x hi => ?_⟩
  have := h8 i (.int .i64 x) (by simpa using hi)
  unfold IntSl
  rw [List.length_set, List.map_set]; exact this
def zipMax : List Int → List Int → List Int
  | a :: r, b :: s => max a b :: zipMax r s
  | _, _ => []
theorem zipMax_len : ∀ (a b : List Int), a.length = b.length → (zipMax a b).length = a.length
  | [], [], _ => rfl
  | a :: r, b :: s, h => by simp [zipMax, zipMax_len r s (by simpa using h)]
theorem zipMax_get : ∀ (a b : List Int) (i : Nat) (h1 : i < a.length) (h2 : i < b.length) (h3 : i < (zipMax a b).length), (zipMax a b)[i] = max a[i] b[i]
  | a :: r, b :: s, 0, _, _, _ => rfl
  | a :: r, b :: s, i + 1, h1, h2, h3 => by simp only [zipMax, List.getElem_cons_succ]; exact zipMax_get r s i _ _ _
/-- Is no number of a above b's? -/
def leq : List Int → List Int → Bool
  | a :: r, b :: s => decide (a ≤ b) && leq r s
  | _, _ => true
theorem leq_iff : ∀ (a b : List Int), a.length = b.length → (leq a b = true ↔ ∀ i (h : i < a.length) (h' : i < b.length), a[i] ≤ b[i])
  | [], [], _ => by simp [leq]
  | a :: r, b :: s, h => by
    have ih := leq_iff r s (by simpa using h)
    simp only [leq, Bool.and_eq_true, decide_eq_true_eq, ih]
    constructor
    · rintro ⟨h1, h2⟩ i hi hi'
      cases i with
      | zero => exact h1
      | succ i => exact h2 i (by simpa using hi) (by simpa using hi')
    · intro h1
      exact ⟨h1 0 (by simp) (by simp), fun i hi hi' => by have := h1 (i + 1) (by simpa using hi) (by simpa using hi'); simpa using this⟩
/-- A number that is no 0 is an error. -/
theorem errV_some {n : Nat} (h : n ≠ 0) : ∃ m : Int, errV n = .iface 38 (.int .i64 m) := by
  cases n with
  | zero => exact absurd rfl h
  | succ n => exact ⟨_, rfl⟩
def bothErr (a b : List Int) : Nat := if vecErr a = 0 then vecErr b else vecErr a
theorem bothErr0 {a b : List Int} (h : bothErr a b = 0) : vecErr a = 0 ∧ vecErr b = 0 := by
  unfold bothErr at h
  split at h
  · rename_i h1; exact ⟨h1, h⟩
  · rename_i h1; exact absurd h h1
end Go.Proofs.Ytddbjcpfgjcmnaa
