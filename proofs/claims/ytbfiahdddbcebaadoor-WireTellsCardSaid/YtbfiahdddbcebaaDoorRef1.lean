/- Contracts of the reference's vectors: the fault of one; is one below another. -/
import Derived.Test.YtbfiahdddbcebaaDoorVec2
namespace Go.Proofs.YtbfiahdddbcebaaDoor
set_option linter.unusedVariables false
set_option linter.unusedSimpArgs false
open Go.RowKit
theorem any_false {l : List Int} (h : ∀ j (h : j < l.length), isCount l[j] = true) : (l.any fun n => !isCount n) = false := by
  rw [List.any_eq_false]
  intro x hx
  obtain ⟨j, hj, rfl⟩ := List.mem_iff_getElem.1 hx
  simp [h j hj]
set_option maxRecDepth 100000 in
set_option maxHeartbeats 4000000 in
theorem refVector_any (v : Value) (l : List Int) (w : World) (hl : Ints w v l) :
    Calls Tryd.prog 22 #[v] w fun e w' => e = .returned (.int .i64 (vecErr l : Nat)) ∧ w = w' := by
  obtain ⟨ad, cap, rfl, hlc, hcap⟩ := hl.shape
  have HL := Lib.hid hl
  clear hl
  by_cases h5 : l.length = 5
  rotate_left
  · have h5' : ((l.length : Int) != 5) = true := by rw [bne_iff_ne]; omega
    have hv : vecErr l = 3 := by simp [vecErr, h5]
    have HV := Lib.hid hv; have H5 := Lib.hid h5
    clear hv h5
    go_enter Tryd.func22, Tryd.ntmps22
    go_wp2
    go_ret
    exact ⟨by rw [HV.out]; rfl, rfl⟩
  have h5' : ((l.length : Int) != 5) = false := by rw [bne_eq_false_iff_eq]; omega
  have hle : 5 ≤ l.length := by omega
  have H5 := Lib.hid h5
  clear h5
  go_enter Tryd.func22, Tryd.ntmps22
  go_wp2_with fail
  go_loop [3] (fun i => ∃ k : Nat, k ≤ 5 ∧ i = .int .i64 k ∧ Hid (∀ j (h : j < k) (h' : j < l.length), isCount l[j] = true)) (fun i => 5 - (intOf i).toNat)
  case atStart => exact ⟨0, Nat.zero_le _, rfl, fun j h => by omega⟩
  case round =>
    obtain ⟨k, hk, rfl, hp⟩ := hrel
    by_cases hlt : k < 5
    rotate_left
    · go_wp2
      go_ret
      refine ⟨?_, rfl⟩
      have : vecErr l = 0 := by unfold vecErr; rw [if_neg (by rw [H5.out]; simp), any_false (fun j hj => hp.out j (by have := H5.out; omega) hj)]; rfl
      rw [this]; rfl
    have hlt' : k < l.length := by omega
    obtain ⟨aa, rfl, hca⟩ := HL.out.at k hlt'
    obtain ⟨x, hx⟩ : ∃ x, x = l[k] := ⟨_, rfl⟩
    rw [← hx] at hca
    have bad : isCount x = false → vecErr l = 1 := fun h => by
      unfold vecErr
      rw [if_neg (by rw [H5.out]; simp), if_pos]
      rw [List.any_eq_true]
      exact ⟨l[k], List.getElem_mem hlt', by rw [← hx, h]; rfl⟩
    have good : isCount x = true → ∀ j (h : j < k + 1) (h' : j < l.length), isCount l[j] = true := fun h j h1 h2 => by
      by_cases hj : j < k
      · exact hp.out j hj h2
      · have : j = k := by omega
        subst this; rw [← hx]; exact h
    have HX := Lib.hid hx; have BAD := Lib.hid bad; have GOOD := Lib.hid good
    clear hx bad good
    by_cases h0 : x < 0
    · go_wp2
      go_ret
      exact ⟨by rw [BAD.out (by simp [isCount]; omega)]; rfl, rfl⟩
    by_cases h1 : 1000000 < x
    · go_wp2
      go_ret
      exact ⟨by rw [BAD.out (by simp [isCount]; omega)]; rfl, rfl⟩
    go_wp2
    go_round
    case rel => exact ⟨k + 1, by omega, by go_num, GOOD.out (by simp [isCount]; omega)⟩
    case measure => simp [intOf]; omega
end Go.Proofs.YtbfiahdddbcebaaDoor
