/- PiecesFew: Split makes ceiling(len/size) pieces, at least one; they are numbered; all but the last are full. -/
import Derived.Test.YtbfiahdddbcebaaDoorPieces
namespace Go.Proofs.YtbfiahdddbcebaaDoor
set_option linter.unusedVariables false
set_option linter.unusedSimpArgs false
open Go.RowKit
theorem errV1' : errV 1 = .iface 68 (.int .i64 1) := rfl
theorem errV4' : errV 4 = .iface 68 (.int .i64 4) := rfl
theorem splitOf_len (s : ByteArray) (z : Nat) : (splitOf s z).length = splitN s.size z := by simp [splitOf]
theorem full_size (s : ByteArray) (z k : Nat) (hz : 1 ≤ z) (hk : k + 1 < splitN s.size z) : ((s.extract (k * z) (min s.size ((k + 1) * z))).size : Int) = z := by
  have := split_in s.size z (k + 1) hz hk
  rw [Nat.min_eq_right this, ByteArray.size_extract, Nat.min_eq_left this, Nat.add_mul]
  omega
theorem split_cell {w0 w : World} {v : Value} {s : ByteArray} {z : Nat} {R : HProp} (hz : 1 ≤ z) (h : Own w0 (PcSl v (splitOf s z) * R) w) :
    ∃ b off cap, v = .slice (some ⟨b, off, none⟩) (splitN s.size z) cap ∧ splitN s.size z ≤ cap ∧ cap ≤ maxLen ∧ ∀ k, k < splitN s.size z →
      w.cell? ⟨b, off + k * 3, none⟩ = some (.int .i64 k) ∧ w.cell? ⟨b, off + k * 3 + 1, none⟩ = some (.int .i64 (splitN s.size z)) ∧
      ∃ t : ByteArray, (k + 1 < splitN s.size z → (t.size : Int) = z) ∧ w.cell? ⟨b, off + k * 3 + 2, none⟩ = some (.string t) := by
  have hl : 0 < splitN s.size z := by unfold splitN; omega
  obtain ⟨b, off, cap, h1, h2, h3, h4, _⟩ := Own.sl_at h (by rw [pc_len, splitOf_len]; omega)
  rw [splitOf_len] at h1 h2
  refine ⟨b, off, cap, h1, h2, h3, fun k hk => ?_⟩
  have hk' : k < (splitOf s z).length := by rw [splitOf_len]; exact hk
  have hg : (splitOf s z)[k] = splitAt s z k := by simp [splitOf]
  have g := fun j hj => pc_get (splitOf s z) k j hk' hj
  simp only [hg] at g
  refine ⟨h4 (k * 3) _ (g 0 (by omega)), ?_, _, fun h => full_size s z k hz h, ?_⟩
  · rw [Nat.add_assoc]; exact h4 (k * 3 + 1) _ (g 1 (by omega))
  · rw [Nat.add_assoc]; exact h4 (k * 3 + 2) _ (g 2 (by omega))
end Go.Proofs.YtbfiahdddbcebaaDoor
