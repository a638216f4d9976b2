/- What plain.Told makes of an error: its number. -/
import Derived.Test.YtbfiahdddbcebaaDoorAs
namespace Go.Proofs.YtbfiahdddbcebaaDoor
open Go.RowKit
set_option linter.unusedVariables false
/-- What plain.Told makes of an error. -/
theorem tell_any {w0 w : World} {R : HProp} (hg : As.Handle w0) (n : Nat) (h : Own w0 R w) :
    Calls Tryd.prog 29 #[errV n] w fun e w' => e = .returned (.int .i64 n) ∧ Own w0 R w' := by
  have HH := Lib.hid h
  cases n with
  | zero =>
    rw [errV0]
    go_enter Tryd.func29, Tryd.ntmps29
    go_wp2
    go_ret
    exact ⟨rfl, HH.out⟩
  | succ n =>
    rw [show errV (n + 1) = .iface 68 (.int .i64 ((n : Int) + 1)) from rfl]
    have hlt : (⟨0, 0, none⟩ : Addr).block < w0.heap.size := World.block_lt_of_cell? _ _ hg
    have hw : As.Handle w := by unfold As.Handle; rw [h.below.cell (p := ⟨0, 0, none⟩) hlt]; exact hg
    have hlw : (⟨0, 0, none⟩ : Addr).block < w.heap.size := World.block_lt_of_cell? _ _ hw
    have hw1 : As.Handle (w.alloc (.cells #[.int .i64 0] 68)) := by unfold As.Handle; rw [World.cell?_alloc_lt _ _ _ hlw]; exact hw
    have HW1 := Lib.hid hw1
    have g1 := (h.alloc (.cells #[.int .i64 0] 68))
    have HC := Lib.hid (g1.cell 0); have HF := Lib.hid (g1.free 0 none)
    clear hw hw1 hlw hlt h g1 hg
    go_enter Tryd.func29, Tryd.ntmps29
    go_wp2_with fail
    refine (As.as_hit _ ⟨w.heap.size, 0, none⟩ (.int .i64 0) _ HW1.out HC.out HF.out).mono ?_
    rintro e w' ⟨rfl, rfl⟩
    go_wp2
    go_ret
    exact ⟨by simp, ((((HH.out.alloc' _).alloc' _).alloc' _).alloc' _).alloc' _⟩
/-- Is an error the one told? -/
theorem sameErr_any {w0 w : World} {R : HProp} (hg : As.Handle w0) (n : Nat) (m : Int) (h : Own w0 R w) :
    Calls Tryd.prog 10 #[errV n, .int .i64 m] w fun e w' => e = .returned (.bool ((n : Int) == m)) ∧ Own w0 R w' := by
  have T := Lib.hid (tell_any hg n h)
  clear hg h
  go_enter Tryd.func10, Tryd.ntmps10
  go_wp2_with fail
  refine (T.out).mono ?_
  rintro e w' ⟨rfl, ho⟩
  have HO := Lib.hid ho
  clear ho
  go_wp2
  go_ret
  exact ⟨rfl, HO.out⟩
end Go.Proofs.YtbfiahdddbcebaaDoor
