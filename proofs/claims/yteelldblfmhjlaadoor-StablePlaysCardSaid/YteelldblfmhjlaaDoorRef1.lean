/- Contracts of the reference's vectors: the fault of one; is one below another. -/
import Derived.Test.YteelldblfmhjlaaDoorVec2
namespace Go.Proofs.YteelldblfmhjlaaDoor
set_option linter.unusedVariables false
set_option linter.unusedSimpArgs false
open Go.RowKit
theorem any_false {l : List Int} (h : ∀ j (h : j < l.length), isCount l[j] = true) : (l.any fun n => !isCount n) = false := by
  rw [List.any_eq_false]
  intro x hx
  obtain ⟨j, hj, rfl⟩ := List.mem_iff_getElem.1 hx
  simp [h j hj]
set_option maxRecDepth 100000 in
set_option maxHeartbeats 4000000 in
theorem refVector_any (v : Value) (l : List Int) (w : World) (hl : Ints w v l) :
    Calls Tryd.prog 11 #[v] w fun e w' => e = .returned (.int .i64 (vecErr l : Nat)) ∧ w = w' := by
  obtain ⟨ad, cap, rfl, hlc, hcap⟩ := hl.shape
  have HL := Lib.hid hl
  clear hl
  by_cases h5 : l.length = 5
  rotate_left
  · have h5' : ((l.length : Int) != 5) = true := by rw [bne_iff_ne]; omega
    have hv : vecErr l = 3 := by simp [vecErr, h5]
    have HV := Lib.hid hv; have H5 := Lib.hid h5
    clear hv h5
    go_enter Tryd.func11, Tryd.ntmps11
    go_wp2
    go_ret
    exact ⟨by rw [HV.out]; rfl, rfl⟩
  have h5' : ((l.length : Int) != 5) = false := by rw [bne_eq_false_iff_eq]; omega
  have hle : 5 ≤ l.length := by omega
  have H5 := Lib.hid h5
  clear h5
  go_enter Tryd.func11, Tryd.ntmps11
  go_wp2_with fail
  go_loop [3] (fun i => ∃ k : Nat, k ≤ 5 ∧ i = .int .i64 k ∧ Hid (∀ j (h : j < k) (h' : j < l.length), isCount l[j] = true)) (fun i => 5 - (intOf i).toNat)
  case atStart => exact ⟨0, Nat.zero_le _, rfl, fun j h => by omega⟩
  case round =>
    obtain ⟨k, hk, rfl, hp⟩ := hrel
    by_cases hlt : k < 5
    rotate_left
    · go_wp2
      go_ret
      refine ⟨?_, rfl⟩
      have : vecErr l = 0 := by unfold vecErr; rw [if_neg (by rw [H5.out]; simp), any_false (fun j hj => hp.out j (by have := H5.out; omega) hj)]; rfl
      rw [this]; rfl
    have hlt' : k < l.length := by omega
    obtain ⟨aa, rfl, hca⟩ := HL.out.at k hlt'
    obtain ⟨x, hx⟩ : ∃ x, x = l[k] := ⟨_, rfl⟩
    rw [← hx] at hca
    have bad : isCount x = false → vecErr l = 1 := fun h => by
      unfold vecErr
      rw [if_neg (by rw [H5.out]; simp), if_pos]
      rw [List.any_eq_true]
      exact ⟨l[k], List.getElem_mem hlt', by rw [← hx, h]; rfl⟩
    have good : isCount x = true → ∀ j (h : j < k + 1) (h' : j < l.length), isCount l[j] = true := fun h j h1 h2 => by
      by_cases hj : j < k
      · exact hp.out j hj h2
      · have : j = k := by omega
        subst this; rw [← hx]; exact h
    have HX := Lib.hid hx; have BAD := Lib.hid bad; have GOOD := Lib.hid good
    clear hx bad good
    by_cases h0 : x < 0
    · go_wp2
      go_ret
      exact ⟨by rw [BAD.out (by simp [isCount]; omega)]; rfl, rfl⟩
    by_cases h1 : 1000000 < x
    · go_wp2
      go_ret
      exact ⟨by rw [BAD.out (by simp [isCount]; omega)]; rfl, rfl⟩
    go_wp2
    go_round
    case rel => exact ⟨k + 1, by omega, by go_num, GOOD.out (by simp [isCount]; omega)⟩
    case measure => simp [intOf]; omega
set_option maxRecDepth 100000 in
set_option maxHeartbeats 4000000 in
theorem refLeq_any (va vb : Value) (a b : List Int) (w : World) (ha : Ints w va a) (hb : Ints w vb b) (h5a : a.length = 5) (h5b : b.length = 5) :
    Calls Tryd.prog 16 #[va, vb] w fun e w' => e = .returned (.bool (leq a b)) ∧ ∃ n, w' = w.drewN n := by
  obtain ⟨ad, cap, rfl, hac, hacap⟩ := ha.shape
  obtain ⟨bd, bcap, rfl, hbc, hbcap⟩ := hb.shape
  have hiff := leq_iff a b (by omega)
  have h1 : 5 ≤ a.length := by omega
  have h2 : 5 ≤ b.length := by omega
  have HA := Lib.hid ha; have HB := Lib.hid hb; have HIFF := Lib.hid hiff; have H5A := Lib.hid h5a; have H5B := Lib.hid h5b
  clear ha hb hiff h5a h5b
  go_enter Tryd.func16, Tryd.ntmps16
  go_wp2_with fail
  go_loopw [5] (fun i wr => ∃ k : Nat, k ≤ 5 ∧ i = .int .i64 k ∧ Hid ((∀ j (h : j < k) (h' : j < a.length) (h'' : j < b.length), a[j] ≤ b[j]) ∧ ∃ n, wr = w.drewN n)) (fun i _ => 5 - (intOf i).toNat)
  case atStart => exact ⟨0, Nat.zero_le _, rfl, fun j h => by omega, 0, rfl⟩
  case round =>
    obtain ⟨k, hk, rfl, hp⟩ := hrel
    obtain ⟨n, rfl⟩ := hp.out.2
    by_cases hlt : k < 5
    rotate_left
    · go_wp2
      go_ret
      exact ⟨ret_bool (HIFF.out.2 fun i h h' => hp.out.1 i (by have := H5A.out; omega) h h').symm, _, rfl⟩
    have hlt1 : k < a.length := by omega
    have hlt2 : k < b.length := by omega
    obtain ⟨aa, rfl, hca⟩ := HA.out.at k hlt1
    obtain ⟨ab, rfl, hcb⟩ := HB.out.at k hlt2
    obtain ⟨x, hx⟩ : ∃ x, x = a[k] := ⟨_, rfl⟩
    obtain ⟨y, hy⟩ : ∃ x, x = b[k] := ⟨_, rfl⟩
    rw [← hx] at hca
    rw [← hy] at hcb
    have HX := Lib.hid hx; have HY := Lib.hid hy
    clear hx hy
    by_cases hle : y < x
    · have hd : decide (y < x) = true := by simp; omega
      go_wp2_with fail
      go_quiet (fail)
      go_wp2
      go_ret
      refine ⟨ret_bool ?_, _, World.drewN_drewN _ _ _⟩
      cases hz : leq a b with
      | false => rfl
      | true => have := HIFF.out.1 hz k hlt1 hlt2; have h3 := HX.out; have h4 := HY.out; omega
    · have hd : decide (y < x) = false := by simp; omega
      go_wp2_with fail
      go_quiet (fail)
      go_wp2
      go_roundw
      case rel =>
        refine ⟨k + 1, by omega, by go_num, ⟨fun j h h' h'' => ?_, _, rfl⟩⟩
        by_cases hj : j < k
        · exact hp.out.1 j hj h' h''
        · have : j = k := by omega
          subst this; have h3 := HX.out; have h4 := HY.out; omega
      case measure => simp [intOf]; omega
end Go.Proofs.YteelldblfmhjlaaDoor
