/- TokenPlays: plain laws. -/
import Derived.Test.YteelldblfmhjlaaDoorRefToken
import Derived.Test.YteelldblfmhjlaaDoorSamePlaced
import Derived.Test.YteelldblfmhjlaaDoorFifoPlays
namespace Go.Proofs.YteelldblfmhjlaaDoor
set_option linter.unusedVariables false
set_option linter.unusedSimpArgs false
open Go.RowKit
/-- What holds of a token behind k steps. -/
def TpI (n most k : Nat) (t : Tok) : Prop := (2 ≤ n ∧ n ≤ 5) ∧ (1 ≤ most ∧ most ≤ 10) ∧ t.waits.length = n ∧ t.most = most ∧ t.holder < n ∧ (∀ l ∈ t.waits, l.length ≤ k ∧ ∀ x ∈ l, 1 ≤ x ∧ x ≤ 30) ∧ t.placed ≤ 10 * k
theorem TpI.fit {n most k : Nat} {t : Tok} (h : TpI n most k t) (hk : k ≤ 130) : tokFit t := by
  obtain ⟨h1, h2, h3, h4, h5, h6, h7⟩ := h
  refine ⟨by omega, by omega, by omega, fun l hl => ⟨by have := (h6 l hl).1; omega, (h6 l hl).2⟩, by omega⟩
theorem tpi_new {n most : Nat} (h1 : 2 ≤ n ∧ n ≤ 5) (h2 : 1 ≤ most ∧ most ≤ 10) : TpI n most 0 (tokNew n most) := by
  refine ⟨h1, h2, by simp [tokNew], rfl, by simp [tokNew]; omega, fun l hl => ?_, by simp [tokNew]⟩
  simp [tokNew] at hl
  rw [hl.2]; simp
theorem TpI.later {n most k : Nat} {t : Tok} (h : TpI n most k t) : TpI n most (k + 1) t := by
  obtain ⟨h1, h2, h3, h4, h5, h6, h7⟩ := h
  exact ⟨h1, h2, h3, h4, h5, fun l hl => ⟨by have := (h6 l hl).1; omega, (h6 l hl).2⟩, by omega⟩
theorem tpi_say {n most k : Nat} {t : Tok} (h : TpI n most k t) (who word : Int) : TpI n most (k + 1) (tokSay t who word) := by
  unfold tokSay
  split
  rotate_left
  · exact h.later
  rename_i he
  have hl := h.later
  obtain ⟨h1, h2, h3, h4, h5, h6, h7⟩ := h
  obtain ⟨_, _, _, _, _, g6, g7⟩ := hl
  refine ⟨h1, h2, by simpa using h3, h4, h5, fun l hl => ?_, g7⟩
  rcases List.mem_or_eq_of_mem_set hl with hl | rfl
  · exact g6 l hl
  · have hwd : isWord word = true := by
      unfold tokErr at he
      split at he
      · cases he
      split at he
      · cases he
      rename_i h; simpa using h
    have hw2 : 1 ≤ word ∧ word ≤ 30 := by simpa [isWord] using hwd
    have hg : (t.waits.getD who.toNat []).length ≤ k ∧ ∀ x ∈ t.waits.getD who.toNat [], 1 ≤ x ∧ x ≤ 30 := by
      by_cases hk : who.toNat < t.waits.length
      · have : t.waits.getD who.toNat [] ∈ t.waits := by simp [hk]
        exact h6 _ this
      · have : t.waits.getD who.toNat [] = [] := by simp [List.getElem?_eq_none (Nat.le_of_not_lt hk)]
        rw [this]; simp
    refine ⟨by rw [List.length_append, List.length_singleton]; omega, fun x hx => ?_⟩
    rcases List.mem_append.1 hx with hx | hx
    · exact hg.2 x hx
    · simp at hx; subst hx; exact hw2
theorem tpi_pass {n most k : Nat} {t : Tok} (h : TpI n most k t) : TpI n most (k + 1) (tokPass t) := by
  have hl := h.later
  obtain ⟨h1, h2, h3, h4, h5, h6, h7⟩ := h
  obtain ⟨_, _, _, _, _, g6, g7⟩ := hl
  unfold tokPass
  refine ⟨h1, h2, by simpa using h3, h4, by show (t.holder + 1) % t.waits.length < n; rw [h3]; exact Nat.mod_lt _ (by omega), fun l hl => ?_, ?_⟩
  · rcases List.mem_or_eq_of_mem_set hl with hl | rfl
    · exact g6 l hl
    · have hm : tokRow t ∈ t.waits := by unfold tokRow; simp [h3, h5]
      have := g6 _ hm
      exact ⟨by rw [List.length_drop]; omega, fun x hx => this.2 x (List.mem_of_mem_drop hx)⟩
  · show t.placed + tokN t ≤ 10 * (k + 1)
    have : tokN t ≤ t.most := by unfold tokN; exact Nat.min_le_right _ _
    omega
def TpB (X : Bool) (w1 : World) (c : Value) (wx : World) : Prop := c = .bool X ∧ wx = w1
/-- What holds behind the switch. -/
def TpC (w : World) (n most p q vb k : Nat) (x y z : Int) (told : Value) (wx : World) : Prop :=
  told = .bool true ∧ ∃ t, TpI n most (k + 1) t ∧ Own w (TokP p t * (RtP q t * (Tri vb [x, y, z] * emp))) wx
theorem rtNew {w0 w : World} {q n most : Nat} {R : HProp} (hn : n ≤ 5) {cs : Array Value}
    (hcs : cs = #[.int .i64 n, .int .i64 most, .int .i64 0, .int .i64 0, .slice none 0 0, .slice none 0 0, .slice none 0 0, .slice none 0 0, .slice none 0 0, .bool false, .bool false, .bool false, .bool false, .bool false, .bool false, .bool false, .bool false, .bool false, .bool false, .bool false, .bool false, .bool false, .bool false, .bool false, .bool false, .bool false, .bool false, .bool false, .bool false, .bool false, .bool false, .bool false, .bool false, .bool false, .bool false, .bool false, .bool false, .bool false, .bool false, .bool false])
    (h : Own w0 (blk q (.cells cs 79 (0, 0)) * R) w) : Own w0 (RtP q (tokNew n most) * R) w := by
  subst hcs
  refine Own.rt_close (rs := List.replicate 5 (.slice none 0 0, [])) ?_ ?_
  · simp only [rtRows, tokNew, List.length_replicate, List.map_replicate, List.replicate_append_replicate]
    congr 1; omega
  · unfold RtO
    rw [starL_nils rowP (.slice none 0 0, []) (by unfold rowP IntSl; exact Sl_nil _ _), star_emp]
    refine h.perm ?_
    have e : (rtCells (tokNew n most) (List.replicate 5 (.slice none 0 0, []))).toArray = #[.int .i64 n, .int .i64 most, .int .i64 0, .int .i64 0, .slice none 0 0, .slice none 0 0, .slice none 0 0, .slice none 0 0, .slice none 0 0, .bool false, .bool false, .bool false, .bool false, .bool false, .bool false, .bool false, .bool false, .bool false, .bool false, .bool false, .bool false, .bool false, .bool false, .bool false, .bool false, .bool false, .bool false, .bool false, .bool false, .bool false, .bool false, .bool false, .bool false, .bool false, .bool false, .bool false, .bool false, .bool false, .bool false, .bool false] := by
      simp [rtCells, rtHead, rtSaid, tokNew, List.range_succ, List.replicate]
    rw [e]
end Go.Proofs.YteelldblfmhjlaaDoor
