import Derived.Test.YtclapdicocbnoaaBase
import Derived.Test.YtclapdicocbnoaaProg
import Derived.Handy
namespace Go.Proofs.Ytclapdicocbnoaa
open Go.RowKit
set_option maxRecDepth 100000 in
set_option maxHeartbeats 4000000 in
theorem names_law (w : World) : Calls Try.prog 4 #[] w fun e w' => e = .returned (.bool true) ∧ Below w.heap.size w w' := by
  go_enter Try.func4, Try.ntmps4
  go_wp2
  go_rounds 10
  all_goals (go_ret; exact ⟨rfl, (Below.refl _ _).alloc (Nat.le_refl _) _⟩)
end Go.Proofs.Ytclapdicocbnoaa
