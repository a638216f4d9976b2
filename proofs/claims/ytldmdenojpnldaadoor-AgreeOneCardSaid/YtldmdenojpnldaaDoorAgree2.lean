/- Contracts of package agree: less, first, hear. -/
import Derived.Test.YtldmdenojpnldaaDoorAgree
namespace Go.Proofs.YtldmdenojpnldaaDoor
set_option linter.unusedVariables false
set_option linter.unusedSimpArgs false
open Go.RowKit Go.Maps
def orI (x y : Int) : Int := if x = 0 then y else x
def cmpI (a b : Int) : Int := if a < b then -1 else if b < a then 1 else 0
set_option maxRecDepth 100000 in
set_option maxHeartbeats 4000000 in
theorem isNaN_any (a : Int) (w : World) :
    Calls Tryd.prog 113 #[.int .i64 a] w fun e w' => e = .returned (.bool false) ∧ w = w' := by
  have t1 : (a != a) = false := by rw [bne_eq_false_iff_eq]
  go_enter Tryd.func113, Tryd.ntmps113
  go_wp2
  go_ret
  exact ⟨rfl, rfl⟩
set_option maxRecDepth 100000 in
set_option maxHeartbeats 4000000 in
theorem compare_any (a b : Int) (w : World) :
    Calls Tryd.prog 103 #[.int .i64 a, .int .i64 b] w fun e w' => e = .returned (.int .i64 (cmpI a b)) ∧ w = w' := by
  by_cases h1 : a < b
  · have hc : cmpI a b = -1 := if_pos h1
    have t1 : decide (a < b) = true := by simpa using h1
    have HC := Lib.hid hc; have H1 := Lib.hid h1
    clear hc h1
    go_enter Tryd.func103, Tryd.ntmps103
    go_wp2_with fail
    refine (isNaN_any _ _).mono ?_
    rintro e w' ⟨rfl, rfl⟩
    go_wp2_with fail
    refine (isNaN_any _ _).mono ?_
    rintro e w' ⟨rfl, rfl⟩
    go_wp2
    go_ret
    exact ⟨by rw [show cmpI a b = -1 from HC.out]; rfl, rfl⟩
  have t1 : decide (a < b) = false := by simpa using h1
  by_cases h2 : b < a
  · have hc : cmpI a b = 1 := (if_neg h1).trans (if_pos h2)
    have t2 : decide (b < a) = true := by simpa using h2
    have HC := Lib.hid hc; have H1 := Lib.hid h1; have H2 := Lib.hid h2
    clear hc h1 h2
    go_enter Tryd.func103, Tryd.ntmps103
    go_wp2_with fail
    refine (isNaN_any _ _).mono ?_
    rintro e w' ⟨rfl, rfl⟩
    go_wp2_with fail
    refine (isNaN_any _ _).mono ?_
    rintro e w' ⟨rfl, rfl⟩
    go_wp2
    go_ret
    exact ⟨by rw [show cmpI a b = 1 from HC.out]; rfl, rfl⟩
  have hc : cmpI a b = 0 := (if_neg h1).trans (if_neg h2)
  have t2 : decide (b < a) = false := by simpa using h2
  have HC := Lib.hid hc; have H1 := Lib.hid h1; have H2 := Lib.hid h2
  clear hc h1 h2
  go_enter Tryd.func103, Tryd.ntmps103
  go_wp2_with fail
  refine (isNaN_any _ _).mono ?_
  rintro e w' ⟨rfl, rfl⟩
  go_wp2_with fail
  refine (isNaN_any _ _).mono ?_
  rintro e w' ⟨rfl, rfl⟩
  go_wp2
  go_ret
  exact ⟨by rw [show cmpI a b = 0 from HC.out]; rfl, rfl⟩
set_option maxRecDepth 100000 in
set_option maxHeartbeats 4000000 in
theorem orInt_any (b : Nat) (x y : Int) (w : World) (c0 : w.cell? ⟨b, 0, none⟩ = some (.int .i64 x)) (c1 : w.cell? ⟨b, 1, none⟩ = some (.int .i64 y)) :
    Calls Tryd.prog 102 #[.slice (some ⟨b, 0, none⟩) 2 2] w fun e w' => e = .returned (.int .i64 (orI x y)) ∧ w = w' := by
  go_enter Tryd.func102, Tryd.ntmps102
  go_wp2_with fail
  go_loopw [8] (fun iv wr => ∃ k : Nat, k ≤ 2 ∧ iv = .int .i64 k ∧ Hid (wr = w ∧ (0 < k → x = 0) ∧ (1 < k → y = 0))) (fun iv _ => 2 - (intOf iv).toNat)
  case atStart => exact ⟨0, by omega, rfl, Lib.hid ⟨rfl, by omega, by omega⟩⟩
  case round =>
    obtain ⟨k, hk, rfl, hp⟩ := hrel
    obtain ⟨rfl, h1, h2⟩ := hp.out
    by_cases h3 : k = 0
    · subst h3
      by_cases hx : x = 0
      · have t1 : (x != 0) = false := by rw [bne_eq_false_iff_eq]; exact hx
        have HX := Lib.hid hx; have H1 := Lib.hid h1; have H2 := Lib.hid h2
        clear hx h1 h2
        go_wp2
        go_roundw
        case rel => exact ⟨1, by omega, rfl, Lib.hid (by refine ⟨?_, fun _ => HX.out, fun h => by omega⟩; first | rfl | trivial)⟩
        case measure => simp [intOf]
      · have t1 : (x != 0) = true := by rw [bne_iff_ne]; exact hx
        have HX := Lib.hid hx; have H1 := Lib.hid h1; have H2 := Lib.hid h2
        clear hx h1 h2
        go_wp2
        go_ret
        exact ⟨by rw [show orI x y = x from if_neg HX.out]; rfl, rfl⟩
    have hx : x = 0 := h1 (by omega)
    by_cases h4 : k = 1
    · subst h4
      by_cases hy : y = 0
      · have t1 : (y != 0) = false := by rw [bne_eq_false_iff_eq]; exact hy
        have HX := Lib.hid hx; have HY := Lib.hid hy; have H1 := Lib.hid h1; have H2 := Lib.hid h2
        clear hx hy h1 h2
        go_wp2
        go_roundw
        case rel => exact ⟨2, by omega, rfl, Lib.hid (by refine ⟨?_, fun _ => HX.out, fun _ => HY.out⟩; first | rfl | trivial)⟩
        case measure => simp [intOf]
      · have t1 : (y != 0) = true := by rw [bne_iff_ne]; exact hy
        have HX := Lib.hid hx; have HY := Lib.hid hy; have H1 := Lib.hid h1; have H2 := Lib.hid h2
        clear hx hy h1 h2
        go_wp2
        go_ret
        exact ⟨by rw [show orI x y = y from if_pos HX.out]; rfl, rfl⟩
    have h5 : k = 2 := by omega
    subst h5
    have hy : y = 0 := h2 (by omega)
    have HX := Lib.hid hx; have HY := Lib.hid hy; have H1 := Lib.hid h1; have H2 := Lib.hid h2; have H3 := Lib.hid h3; have H4 := Lib.hid h4
    clear hx hy h1 h2 h3 h4
    go_wp2
    go_ret
    exact ⟨by rw [show orI x y = 0 from (if_pos HX.out).trans HY.out]; rfl, rfl⟩
def stV (s : St) : Value := .agg #[.int .i64 s.1, .int .i64 s.2]
def StO (b : Nat) (s : St) : HProp := blk b (.cells #[.int .i64 s.1, .int .i64 s.2] 108 (0, 0))
theorem Own.sto {w0 w : World} {b : Nat} {s : St} {R : HProp} (h : Own w0 (StO b s * R) w) : w.cell? ⟨b, 0, none⟩ = some (.int .i64 s.1) ∧ w.cell? ⟨b, 1, none⟩ = some (.int .i64 s.2) ∧ ∀ i t, w.frozen? ⟨b, i, t⟩ = false :=
  ⟨(Own.cell h 0).trans rfl, (Own.cell h 1).trans rfl, Own.free h⟩
theorem stLess_cmp (a b : St) : stLess a b = decide (orI (cmpI a.1 b.1) (cmpI a.2 b.2) < 0) := by
  unfold stLess orI cmpI
  by_cases h1 : a.1 < b.1
  · simp [h1]
  · by_cases h2 : b.1 < a.1
    · have h3 : ¬ a.1 = b.1 := by omega
      simp [h1, h2, h3]
    · have h3 : a.1 = b.1 := by omega
      by_cases h4 : a.2 < b.2
      · simp [h3, h4]
      · by_cases h5 : b.2 < a.2 <;> simp [h3, h4, h5]
set_option maxRecDepth 100000 in
set_option maxHeartbeats 4000000 in
theorem less_any {w0 w : World} {R : HProp} (a b : St) (h : Own w0 R w) :
    Calls Tryd.prog 82 #[.agg #[.int .i64 a.1, .int .i64 a.2], .agg #[.int .i64 b.1, .int .i64 b.2]] w fun e w' => e = .returned (.bool (stLess a b)) ∧ Own w0 R w' := by
  rw [stLess_cmp]
  obtain ⟨a1, a2⟩ := a
  obtain ⟨b1, b2⟩ := b
  dsimp only
  obtain ⟨p1, hb_p1⟩ : ∃ zz_, zz_ = (w).heap.size := ⟨_, rfl⟩
  obtain ⟨w1, hw_w1⟩ : ∃ zz_, zz_ = (w).alloc (.cells #[.int .i64 a1, .int .i64 a2] 108 (0, 0)) := ⟨_, rfl⟩
  have h_H1 := (h).alloc (.cells #[.int .i64 a1, .int .i64 a2] 108 (0, 0))
  rw [← hb_p1, ← hw_w1] at h_H1
  have H1 := Lib.hid h_H1
  clear h_H1
  obtain ⟨p2, hb_p2⟩ : ∃ zz_, zz_ = (w1).heap.size := ⟨_, rfl⟩
  obtain ⟨w2, hw_w2⟩ : ∃ zz_, zz_ = (w1).alloc (.cells #[.int .i64 b1, .int .i64 b2] 108 (0, 0)) := ⟨_, rfl⟩
  have h_H2 := (H1.out).alloc (.cells #[.int .i64 b1, .int .i64 b2] 108 (0, 0))
  rw [← hb_p2, ← hw_w2] at h_H2
  have H2 := Lib.hid h_H2
  clear h_H2
  have HO : Hid (Own w0 (StO p1 (a1, a2) * (StO p2 (b1, b2) * R)) w2) := Lib.hid (H2.out.second.perm (by unfold StO; ac_rfl))
  obtain ⟨x0, x1, _⟩ := HO.out.drew.sto
  obtain ⟨y0, y1, _⟩ := HO.out.drew.second.sto
  simp only at x0 x1 y0 y1
  clear H1 H2
  have H := Lib.hid h
  clear h
  go_enter Tryd.func82, Tryd.ntmps82
  go_upto_region 1 with fail
  have hq_p2 : p1 + 1 = p2 := by rw [hb_p2, hw_w1, hb_p1, World.size_alloc]
  rw [← hb_p1, hq_p2, ← hw_w1, ← hw_w2]
  clear hq_p2 hb_p1 hb_p2 hw_w1 hw_w2
  refine wp_region_planH 13 [] [(true, 0), (true, 1), (true, 2), (true, 3), (true, 5), (true, 6), (true, 7), (true, 8), (false, 4), (false, 9), (false, 10), (false, 11), (true, 12)] [13] (fun wS => wS.cell? ⟨p1, 0, none⟩ = some (.int .i64 a1) ∧ wS.cell? ⟨p1, 1, none⟩ = some (.int .i64 a2) ∧ wS.cell? ⟨p2, 0, none⟩ = some (.int .i64 b1) ∧ wS.cell? ⟨p2, 1, none⟩ = some (.int .i64 b2)) (by kernel_rfl) (by kernel_rfl) (⟨x0, x1, y0, y1⟩) ?_
  simp only [pickH, pick, List.getElem?_cons_succ, List.getElem?_cons_zero, Option.toList, Option.map_some, List.cons_append, List.nil_append]
  repeat (refine wpPure_step ?_ rfl ?_ ?_; rotate_left; (focus (intro _; first | with_reducible rfl | (go_simp; done) | (go_simp; with_reducible rfl) | rfl)); go_simp)
  refine wpPure_nil ?_
  repeat (refine wpMix_read ?_ rfl ?_ ?_; rotate_left; (focus (intro _ hS; obtain ⟨s1, s2, s3, s4⟩ := hS; first | with_reducible rfl | (go_simp; done) | (go_simp; with_reducible rfl) | rfl)); go_simp)
  refine wpMix_write (fun K hK => ?_)
  go_simp
  refine (compare_any _ _ _).mono ?_
  rintro e w' ⟨rfl, rfl⟩
  refine hK _ _ ⟨⟨x0, x1, y0, y1⟩, ?_⟩
  clear hK K
  go_simp
  refine wpMix_write (fun K hK => ?_)
  go_simp
  refine (compare_any _ _ _).mono ?_
  rintro e w' ⟨rfl, rfl⟩
  refine hK _ _ ⟨⟨x0, x1, y0, y1⟩, ?_⟩
  clear hK K
  go_simp
  refine wpMix_write (fun K hK => ?_)
  go_simp
  obtain ⟨p3, hb_p3⟩ : ∃ zz_, zz_ = (w2).heap.size := ⟨_, rfl⟩
  obtain ⟨w3, hw_w3⟩ : ∃ zz_, zz_ = (w2).alloc (.cells #[.int .i64 (cmpI a1 b1), .int .i64 (cmpI a2 b2)] 3 (0, 0)) := ⟨_, rfl⟩
  have h_H3 := (HO.out).alloc (.cells #[.int .i64 (cmpI a1 b1), .int .i64 (cmpI a2 b2)] 3 (0, 0))
  rw [← hb_p3, ← hw_w3] at h_H3
  have H3 := Lib.hid h_H3
  clear h_H3
  rw [← hb_p3, ← hw_w3]
  clear hb_p3 hw_w3
  clear x0 x1 y0 y1
  have z0 : w3.drew.cell? ⟨p3, 0, none⟩ = some (.int .i64 (cmpI a1 b1)) := (H3.out.drew.cell 0).trans rfl
  have z1 : w3.drew.cell? ⟨p3, 1, none⟩ = some (.int .i64 (cmpI a2 b2)) := (H3.out.drew.cell 1).trans rfl
  have HO3 : Hid (Own w0 (StO p1 (a1, a2) * (StO p2 (b1, b2) * R)) w3.drew) := Lib.hid H3.out.drop.drew
  clear H3
  obtain ⟨x0, x1, _⟩ := HO3.out.sto
  obtain ⟨y0, y1, _⟩ := HO3.out.second.sto
  simp only at x0 x1 y0 y1
  refine hK _ _ ⟨⟨x0, x1, y0, y1⟩, ?_⟩
  clear hK K
  go_simp
  refine wpMix_write (fun K hK => ?_)
  go_simp
  refine (orInt_any p3 _ _ _ z0 z1).mono ?_
  rintro e w' ⟨rfl, rfl⟩
  refine hK _ _ ⟨⟨x0, x1, y0, y1⟩, ?_⟩
  clear hK K
  go_simp
  repeat (refine wpMix_read ?_ rfl ?_ ?_; rotate_left; (focus (intro _ hS; obtain ⟨s1, s2, s3, s4⟩ := hS; first | with_reducible rfl | (go_simp; done) | (go_simp; with_reducible rfl) | rfl)); go_simp)
  refine wpMix_nil ?_
  go_wp2_with fail
  refine NoPanic.normal ?_
  go_wp2
  go_ret
  exact ⟨rfl, HO3.out.drop.drop⟩
end Go.Proofs.YtldmdenojpnldaaDoor
