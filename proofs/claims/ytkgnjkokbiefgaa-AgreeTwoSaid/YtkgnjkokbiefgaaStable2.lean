/- Contracts of package stable, the second part. -/
import Derived.Test.YtkgnjkokbiefgaaStable
namespace Go.Proofs.Ytkgnjkokbiefgaa
set_option linter.unusedVariables false
set_option linter.unusedSimpArgs false
open Go.RowKit
theorem Own.stable_mk {w0 w : World} {p : Nat} {rv : Value} {rs : List (Value × List Int)} {R : HProp}
    (h : Own w0 (blk p (.cells #[rv] 173 (0, 0)) * (Sl 27 1 rv rs.length (rs.map (·.1)) * (starL rowP rs * R))) w) : Own w0 (StableP p (rs.map (·.2)) * R) w := by
  refine Own.ex_mk (rv, rs) ?_
  rw [star_assoc]
  exact Own.pur_mk rfl (h.perm (by ac_rfl))
theorem Own.stable_un {w0 w : World} {p : Nat} {rows : List (List Int)} {R : HProp} (h : Own w0 (StableP p rows * R) w) :
    ∃ rv rs, rs.map (·.2) = rows ∧ Own w0 (blk p (.cells #[rv] 173 (0, 0)) * (Sl 27 1 rv rs.length (rs.map (·.1)) * (starL rowP rs * R))) w := by
  obtain ⟨⟨rv, rs⟩, h⟩ := Own.ex h
  rw [star_assoc] at h
  obtain ⟨he, h⟩ := Own.pur_out h
  exact ⟨rv, rs, he, h.perm (by ac_rfl)⟩
def zero5 : List Int := [0, 0, 0, 0, 0]
theorem vecErr_zero5 : vecErr zero5 = 0 := by decide
set_option maxHeartbeats 400000 in
theorem stableNew_no {w : World} (n : Int) (hn : isGroup n = false) :
    Calls Try.prog 50 #[.int .i64 n] w fun e w' => e = .returned (.tuple #[.pointer none, errV 1]) ∧ w = w' := by
  have HN := Lib.hid hn
  clear hn
  go_enter Try.func50, Try.ntmps50
  go_wp2_with fail
  refine (group_any _ _).mono ?_
  rintro e w' ⟨rfl, rfl⟩
  rw [HN.out]
  go_wp2
  go_ret2
  exact ⟨rfl, rfl⟩
/-- The block of a new row is an owned list. -/
theorem Own.zero5 {w0 w : World} {b : Nat} {R : HProp} (h : Own w0 (blk b (.cells #[.int .i64 0, .int .i64 0, .int .i64 0, .int .i64 0, .int .i64 0] 3 (0, 0)) * R) w) : Own w0 (IntSl (.slice (some ⟨b, 0, none⟩) 5 5) Go.Proofs.Ytkgnjkokbiefgaa.zero5 * R) w :=
  Own.sl_mk (by decide) (by unfold maxLen; decide) (by rfl) (by decide) (fun i hi => by
    match i, hi with
    | 0, _ => rfl
    | 1, _ => rfl
    | 2, _ => rfl
    | 3, _ => rfl
    | 4, _ => rfl
    | n + 5, h => simp [Go.Proofs.Ytkgnjkokbiefgaa.zero5] at h; omega) h
theorem new_step {w0 w : World} {p k : Nat} {rv v nv : Value} {rs : List (Value × List Int)} {R : HProp} (hrs : rs.map (·.2) = List.replicate k zero5)
    (h : Own w0 (blk p (.cells #[rv] 173 (0, 0)) * (Sl 27 1 v (rs.length + 1) (rs.map (·.1) ++ [nv]) * (starL rowP ((nv, zero5) :: rs) * R))) w) :
    Own w0 (StableP p (List.replicate (k + 1) zero5) * R) (w.setCell ⟨p, 0, none⟩ v) := by
  have h1 := h.setCell (i := 0) (v := v)
  have h2 : Own w0 (StableP p ((rs ++ [(nv, zero5)]).map (·.2)) * R) (w.setCell ⟨p, 0, none⟩ v) :=
    Own.stable_mk (rv := v) (h1.perm (by rw [starL_snoc]; simp [starL]))
  rw [List.map_append, hrs, List.map_cons, List.map_nil, ← List.replicate_succ'] at h2
  exact h2
set_option maxRecDepth 100000 in
set_option maxHeartbeats 2000000 in
theorem stableNew_yes {w0 w : World} {R : HProp} (n : Nat) (hn : isGroup n = true) (h : Own w0 R w) :
    Calls Try.prog 50 #[.int .i64 n] w fun e w' => ∃ p, e = .returned (.tuple #[.pointer (some ⟨p, 0, none⟩), errV 0]) ∧ Own w0 (StableP p (List.replicate n zero5) * R) w' := by
  have hn5 : n ≤ 5 := by simp [isGroup] at hn; omega
  have HN := Lib.hid hn; have HH := Lib.hid h
  clear hn h
  have hmk : ∀ w, (Instr.makeSlice 27 (.int .i64 5) (.int .i64 5)).run Try.prog w = .ok (.slice (some ⟨w.heap.size, 0, none⟩) 5 5) (w.alloc (.cells #[.int .i64 0, .int .i64 0, .int .i64 0, .int .i64 0, .int .i64 0] 3)) := fun _ => by kernel_rfl
  go_enter Try.func50, Try.ntmps50
  go_wp2_with fail
  refine (group_any _ _).mono ?_
  rintro e w' ⟨rfl, rfl⟩
  rw [HN.out]
  go_wp2_with fail
  have h0 : Own w0 (StableP w.heap.size (List.replicate 0 zero5) * R) (w.alloc (.cells #[.slice none 0 0] 173)) :=
    Own.stable_mk (rs := []) ((HH.out.alloc _).perm (by rw [show starL rowP ([] : List (Value × List Int)) = emp from rfl, emp_star]; simp only [List.map_nil, List.length_nil]; rw [Sl_nil, emp_star]))
  have HS := Lib.hid h0
  clear h0
  go_loopw [12] (fun i wr => ∃ k : Nat, k ≤ n ∧ i = .int .i64 k ∧ Hid (Own w0 (StableP w.heap.size (List.replicate k zero5) * R) wr)) (fun i _ => n - (intOf i).toNat)
  case atStart => exact ⟨0, Nat.zero_le _, rfl, HS.out⟩
  case round =>
    obtain ⟨k, hk, rfl, hp⟩ := hrel
    by_cases hlt : k < n
    · obtain ⟨rv, rs, hrs, ho⟩ := hp.out.stable_un
      have hcell : wr.cell? ⟨w.heap.size, 0, none⟩ = some rv := by rw [ho.cell]; rfl
      have hcell2 : ∀ o, (wr.alloc o).cell? ⟨w.heap.size, 0, none⟩ = some rv := fun o => (World.cell?_alloc_lt _ _ _ ho.lt).trans hcell
      have hcell3 : ∀ o o', ((wr.alloc o).alloc o').cell? ⟨w.heap.size, 0, none⟩ = some rv := fun o o' => (World.cell?_alloc_lt _ _ _ (by rw [World.size_alloc]; exact Nat.lt_succ_of_lt ho.lt)).trans (hcell2 o)
      have hnew : Own w0 (Sl 27 1 rv rs.length (rs.map (·.1)) * (blk w.heap.size (.cells #[rv] 173 (0, 0)) * (starL rowP ((.slice (some ⟨wr.heap.size, 0, none⟩) 5 5, zero5) :: rs) * R))) ((wr.drew.alloc (.cells #[.int .i64 0, .int .i64 0, .int .i64 0, .int .i64 0, .int .i64 0] 3)).alloc (.cells #[.slice (some ⟨wr.heap.size, 0, none⟩) 5 5] 27)) :=
        (((ho.drew.alloc _).zero5.alloc' _).perm (by show _ = _ * (_ * (rowP _ * starL rowP rs * R)); show IntSl _ zero5 * _ = _ * (_ * (IntSl _ zero5 * starL rowP rs * R)); ac_rfl))
      have hrl : rs.length = k := by have := congrArg List.length hrs; simpa using this
      have HO := Lib.hid hnew; have HP := Lib.hid ho; have HRS := Lib.hid hrs; have HRL := Lib.hid hrl
      have hle : rs.length ≤ 5 := by omega
      clear hp ho hnew hrs hrl
      go_wp2_with fail
      go_region_law (refine step_app rfl _ _ 50 rfl 27 1 24 _ info_ints Try.underlying50 rfl (by decide) rfl HO.out rfl (by rfl) (Rd_lit (by simp) (by unfold maxLen; omega)) (by intro u hu; simp at hu; subst hu; rfl) (by unfold maxLen; omega) (by omega) ?_; intro v' w1 hown'; obtain ⟨ad', cp', rfl, _⟩ := Own.rd hown'; have g0 := (hown'.perm (star_left_comm _ _ _)); have g1 := g0.cell 0; have g2 := g0.free 0 none; have HW := Lib.hid g0; clear hown' g0; simp at g1)
      all_goals
        go_wp2
        go_roundw
        case rel => exact ⟨k + 1, by omega, by go_num, new_step HRS.out HW.out⟩
        case measure => simp [intOf]; omega
    · have hkn : k = n := by omega
      subst hkn
      have HP := Lib.hid hp.out
      clear hp
      go_wp2
      go_ret2
      exact ⟨_, rfl, HP.out⟩
end Go.Proofs.Ytkgnjkokbiefgaa
