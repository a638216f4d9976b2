/- Contracts of package stable, the second part. -/
import Derived.Test.YtldmdenojpnldaaDoorStable
namespace Go.Proofs.YtldmdenojpnldaaDoor
set_option linter.unusedVariables false
set_option linter.unusedSimpArgs false
open Go.RowKit
def zero5 : List Int := [0, 0, 0, 0, 0]
theorem vecErr_zero5 : vecErr zero5 = 0 := by decide
/-- The block of a new row is an owned list. -/
theorem Own.zero5 {w0 w : World} {b : Nat} {R : HProp} (h : Own w0 (blk b (.cells #[.int .i64 0, .int .i64 0, .int .i64 0, .int .i64 0, .int .i64 0] 3 (0, 0)) * R) w) : Own w0 (IntSl (.slice (some ⟨b, 0, none⟩) 5 5) Go.Proofs.YtldmdenojpnldaaDoor.zero5 * R) w :=
  Own.sl_mk (by decide) (by unfold maxLen; decide) (by rfl) (by decide) (fun i hi => by
    match i, hi with
    | 0, _ => rfl
    | 1, _ => rfl
    | 2, _ => rfl
    | 3, _ => rfl
    | 4, _ => rfl
    | n + 5, h => simp [Go.Proofs.YtldmdenojpnldaaDoor.zero5] at h; omega) h
end Go.Proofs.YtldmdenojpnldaaDoor
