/- Contracts of package history, continued: Cut. -/
import Derived.Test.YtddbjcpfgjcmnaaHist7
import Derived.Test.YtddbjcpfgjcmnaaHistoryBeforeP
namespace Go.Proofs.Ytddbjcpfgjcmnaa
set_option linter.unusedVariables false
set_option linter.unusedSimpArgs false
open Go.RowKit
def takenL (hs : List Ev) (many : List Int) (k : Nat) : List Bool := (List.range k).map (takenB hs many)
theorem takenL_len (hs : List Ev) (many : List Int) (k : Nat) : (takenL hs many k).length = k := by simp [takenL]
theorem takenL_step (hs : List Ev) (many : List Int) (k : Nat) : takenL hs many (k + 1) = takenL hs many k ++ [takenB hs many k] := by simp [takenL, List.range_succ]
theorem takenL_get (hs : List Ev) (many : List Int) (n k : Nat) (hk : k < n) : (takenL hs many n)[k]? = some (takenB hs many k) := by simp [takenL, hk]
theorem counts_at (h : List Ev) (n m : Nat) (hm : m < 5) : (counts h n)[m]? = some ((cnt h (m : Int) n : Nat) : Int) := by
  unfold counts
  rw [List.getElem?_map, List.getElem?_range hm]; rfl
end Go.Proofs.Ytddbjcpfgjcmnaa
