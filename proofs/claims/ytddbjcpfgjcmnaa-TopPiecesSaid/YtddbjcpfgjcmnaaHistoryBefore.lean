/- HistoryBefore: who is ahead is an order; a beginning of a history is a cut that could have been. -/
import Derived.Test.YtddbjcpfgjcmnaaHist9
namespace Go.Proofs.Ytddbjcpfgjcmnaa
set_option linter.unusedVariables false
set_option linter.unusedSimpArgs false
open Go.RowKit
def oneH : List Ev := [(0, 2, 1), (1, 3, 1), (2, 1, 0)]
theorem oneH1 : befB oneH 0 1 = true := by decide +kernel
theorem oneH2 : befErr oneH 0 1 = 0 := by decide +kernel
theorem oneH3 : befB oneH 0 2 = false := by decide +kernel
theorem oneH4 : befErr oneH 0 2 = 0 := by decide +kernel
def oneO : Obj := .cells #[.int .i64 0, .int .i64 2, .int .i64 1, .int .i64 1, .int .i64 3, .int .i64 1, .int .i64 2, .int .i64 1, .int .i64 0] 40 (0, 0)
theorem Own.evs_lit {w0 : World} {b : Nat} {R : HProp} (cs : Array Value) (l : List Ev) (n : Nat) (hcs : cs.toList = l.flatMap evCells) (hn : n = l.length) (hg : ∀ e ∈ l, goodEv e) (hm : n ≤ 1000) :
    ReadsE w0 (blk b (.cells cs 40 (0, 0)) * R) (.slice (some ⟨b, 0, none⟩) n n) l := by
  intro w ho
  subst hn
  refine ⟨Rd_one (cs := l.flatMap evCells) (fun i u hu => ?_) (Nat.le_refl _) (by unfold maxLen; omega), hg⟩
  rw [cell_of_heap ho.blk_at.1, ← hu, ← hcs]
  simp
theorem befErr0 {hs : List Ev} {i k : Int} (h : befErr hs i k = 0) : (histR hs).2 = 0 ∧ insideB hs.length i = false ∧ insideB hs.length k = false := by
  unfold befErr at h
  split at h
  · rename_i h1; exact absurd h h1
  rename_i h1
  split at h
  · cases h
  rename_i h2
  refine ⟨by simpa using h1, ?_, ?_⟩
  · cases hh : insideB hs.length i <;> simp_all
  · cases hh : insideB hs.length k <;> simp_all
theorem befErr_mk {hs : List Ev} {i k : Int} (h1 : (histR hs).2 = 0) (h2 : insideB hs.length i = false) (h3 : insideB hs.length k = false) : befErr hs i k = 0 := by
  unfold befErr; rw [if_neg (by simpa using h1), if_neg (by simp [h2, h3])]
def HbR (w : World) (hs : List Ev) (i k j : Int) (a e1 b e2 c e3 d e4 s e5 : Value) (wx : World) : Prop :=
  a = .bool (befB hs i k) ∧ e1 = errV (befErr hs i k) ∧ b = .bool (befB hs k j) ∧ e2 = errV (befErr hs k j) ∧ c = .bool (befB hs i j) ∧ e3 = errV (befErr hs i j) ∧ d = .bool (befB hs k i) ∧ e4 = errV (befErr hs k i) ∧ s = .bool (befB hs i i) ∧ e5 = errV (befErr hs i i) ∧ Own w emp wx
end Go.Proofs.Ytddbjcpfgjcmnaa
