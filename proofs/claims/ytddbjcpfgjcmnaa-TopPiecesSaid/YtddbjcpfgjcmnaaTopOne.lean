/- moottop's own first check: of two events that are one message, the first is ahead. -/
import Derived.Test.YtddbjcpfgjcmnaaHistoryBefore
namespace Go.Proofs.Ytddbjcpfgjcmnaa
set_option linter.unusedVariables false
set_option linter.unusedSimpArgs false
open Go.RowKit
def oneT : List Ev := [(0, 2, 1), (1, 3, 1)]
theorem oneT1 : befB oneT 0 1 = true := by decide +kernel
theorem oneT2 : befErr oneT 0 1 = 0 := by decide +kernel
def oneTO : Obj := .cells #[.int .i64 0, .int .i64 2, .int .i64 1, .int .i64 1, .int .i64 3, .int .i64 1] 40 (0, 0)
set_option maxRecDepth 100000 in
set_option maxHeartbeats 4000000 in
theorem one_any {w0 w : World} {R : HProp} (h : Own w0 R w) :
    Calls Try.prog 6 #[] w fun e w' => e = .returned (.bool true) ∧ Own w0 R w' := by
  obtain ⟨b1, hb_b1⟩ : ∃ zz_, zz_ = (w).heap.size := ⟨_, rfl⟩
  obtain ⟨w1, hw_w1⟩ : ∃ zz_, zz_ = (w).alloc (oneTO) := ⟨_, rfl⟩
  have h_HO1 := (h).alloc (oneTO)
  rw [← hb_b1, ← hw_w1] at h_HO1
  have HO1 := Lib.hid h_HO1
  clear h_HO1
  have HL1 : Hid (ReadsE w0 (blk b1 oneTO * R) (.slice (some ⟨b1, 0, none⟩) 2 2) oneT) := Lib.hid (Own.evs_lit _ oneT 2 rfl rfl (by intro e he; simp [oneT] at he; rcases he with rfl | rfl <;> (unfold goodEv I64; simp)) (by omega))
  obtain ⟨oo, hoo⟩ : ∃ oo, oo = oneTO := ⟨_, rfl⟩
  rw [← hoo] at HO1 HL1
  unfold oneTO at hoo
  have HOO := hoo
  rw [show oneTO = oo from by rw [hoo]; rfl] at hw_w1
  have H := Lib.hid h
  clear h
  go_enter Try.func6, Try.ntmps6
  go_upto_region 2 with fail
  rw [← HOO]
  rw [← hb_b1, ← hw_w1]
  clear hb_b1 hw_w1
  clear HOO hoo
  go_wp2_with fail
  refine (hBefore_any _ oneT 0 1 (by unfold I64; omega) (by unfold I64; omega) HO1.out HL1.out).mono ?_
  rintro e w2 ⟨rfl, ho⟩
  rw [oneT1, oneT2, errV0]
  have HO2 := Lib.hid ho.drop
  clear ho HO1 HL1
  go_wp2
  go_ret
  exact ⟨rfl, HO2.out⟩
end Go.Proofs.Ytddbjcpfgjcmnaa
