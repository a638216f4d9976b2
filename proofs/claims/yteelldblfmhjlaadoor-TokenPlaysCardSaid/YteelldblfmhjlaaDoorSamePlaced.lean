/- mootsame.Placed: of a list and itself. -/
import Derived.Test.YteelldblfmhjlaaDoorToken2
namespace Go.Proofs.YteelldblfmhjlaaDoor
set_option linter.unusedVariables false
set_option linter.unusedSimpArgs false
open Go.RowKit
set_option maxRecDepth 100000 in
set_option maxHeartbeats 4000000 in
theorem samePlaced_any {w0 w : World} {R : HProp} (va vb : Value) (l : List (Int × Int)) (h : Own w0 (PlSl va l * (PlSl vb l * R)) w) :
    Calls Tryd.prog 39 #[va, vb] w fun e w' => e = .returned (.bool true) ∧ ∃ n, w' = w.drewN n := by
  obtain ⟨ad, cap, hva, hc1, hc2, _⟩ := Own.rd h
  obtain ⟨bd, bcap, hvb, hd1, hd2, _⟩ := Own.rd (h.perm (star_left_comm _ _ _))
  subst hva; subst hvb
  unfold maxLen at hc2
  have HH := Lib.hid h
  clear h
  go_enter Tryd.func39, Tryd.ntmps39
  go_wp2_with fail
  go_loopw [5] (fun i wr => ∃ k n : Nat, k ≤ l.length ∧ i = .int .i64 k ∧ Hid (wr = w.drewN n)) (fun i _ => l.length - (intOf i).toNat)
  case atStart => exact ⟨0, 0, Nat.zero_le _, rfl, Lib.hid rfl⟩
  case round =>
    obtain ⟨k, n, hk, rfl, hp⟩ := hrel
    obtain rfl := hp.out
    by_cases hlt : k < l.length
    · obtain ⟨b, off, cp, e1, _, _, hca, _⟩ := Own.sl_at HH.out (by rw [pl_len]; omega)
      obtain ⟨b2, off2, cp2, e2, _, _, hcb, _⟩ := Own.sl_at (HH.out.perm (star_left_comm _ _ _)) (by rw [pl_len]; omega)
      injection e1 with e1 _ e1'
      injection e2 with e2 _ e2'
      subst e1; subst e2; subst e1'; subst e2'
      have a0 := hca (k * 2) _ (cells_get plCells 2 (fun _ => rfl) l k 0 hlt (by omega))
      have a1 := hca (k * 2 + 1) _ (cells_get plCells 2 (fun _ => rfl) l k 1 hlt (by omega))
      have b0 := hcb (k * 2) _ (cells_get plCells 2 (fun _ => rfl) l k 0 hlt (by omega))
      have b1 := hcb (k * 2 + 1) _ (cells_get plCells 2 (fun _ => rfl) l k 1 hlt (by omega))
      obtain ⟨x, hx⟩ : ∃ x, x = l[k] := ⟨_, rfl⟩
      rw [← hx] at a0 a1 b0 b1
      rw [← Nat.add_assoc] at a1 b1
      have HX := Lib.hid hx; have HCA := Lib.hid hca; have HCB := Lib.hid hcb
      clear hx hca hcb
      go_wp2_with fail
      go_quiet (fail)
      go_wp2_with fail
      go_roundw
      case rel => exact ⟨k + 1, _, by omega, by go_num, Lib.hid rfl⟩
      case measure => simp [intOf]; omega
    · go_wp2
      go_ret
      exact ⟨rfl, _, rfl⟩
end Go.Proofs.YteelldblfmhjlaaDoor
