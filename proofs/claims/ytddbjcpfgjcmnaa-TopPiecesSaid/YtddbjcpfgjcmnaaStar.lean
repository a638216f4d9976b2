/- Parts of what is owned brought to the front; a literal of ints. -/
import Derived.Test.YtddbjcpfgjcmnaaVec
namespace Go.Proofs.Ytddbjcpfgjcmnaa
set_option linter.unusedVariables false
set_option linter.unusedSimpArgs false
open Go.RowKit
section
variable {w0 w : World} {A B C D E F G H R : HProp}
theorem Own.second (h : Own w0 (A * (B * R)) w) : Own w0 (B * (A * R)) w := h.perm (by ac_rfl)
theorem Own.third (h : Own w0 (A * (B * (C * R))) w) : Own w0 (C * (A * (B * R))) w := h.perm (by ac_rfl)
theorem Own.fourth (h : Own w0 (A * (B * (C * (D * R)))) w) : Own w0 (D * (A * (B * (C * R)))) w := h.perm (by ac_rfl)
theorem Own.fifth (h : Own w0 (A * (B * (C * (D * (E * R))))) w) : Own w0 (E * (A * (B * (C * (D * R))))) w := h.perm (by ac_rfl)
theorem Own.sixth (h : Own w0 (A * (B * (C * (D * (E * (F * R)))))) w) : Own w0 (F * (A * (B * (C * (D * (E * R))))) ) w := h.perm (by ac_rfl)
theorem Own.seventh (h : Own w0 (A * (B * (C * (D * (E * (F * (G * R))))))) w) : Own w0 (G * (A * (B * (C * (D * (E * (F * R)))))) ) w := h.perm (by ac_rfl)
/-- The front put back to the third, fourth, .. place. -/
theorem Own.to3 (h : Own w0 (A * (B * (C * R))) w) : Own w0 (B * (C * (A * R))) w := h.perm (by ac_rfl)
theorem Own.to4 (h : Own w0 (A * (B * (C * (D * R)))) w) : Own w0 (B * (C * (D * (A * R)))) w := h.perm (by ac_rfl)
theorem Own.to5 (h : Own w0 (A * (B * (C * (D * (E * R))))) w) : Own w0 (B * (C * (D * (E * (A * R))))) w := h.perm (by ac_rfl)
theorem Own.to6 (h : Own w0 (A * (B * (C * (D * (E * (F * R)))))) w) : Own w0 (B * (C * (D * (E * (F * (A * R)))))) w := h.perm (by ac_rfl)
end
theorem Own.only {w0 w : World} {P R : HProp} (h : Own w0 (P * R) w) : Own w0 (P * emp) w := by rw [star_emp]; exact h.drop2
theorem Own.litI {w0 w : World} {b : Nat} {R : HProp} (l : List Int) (k : Nat) (hk : l.length = k) (hm : k ≤ 1000) (h : Own w0 (blk b (.cells (l.map (Value.int .i64)).toArray 3 (0, 0)) * R) w) : Own w0 (IntSl (.slice (some ⟨b, 0, none⟩) k k) l * R) w := by
  unfold IntSl
  subst hk
  exact Own.sl_mk (Nat.le_refl _) (by unfold maxLen; omega) (by simp) (by simp) (fun i hi => by simp) h
end Go.Proofs.Ytddbjcpfgjcmnaa
