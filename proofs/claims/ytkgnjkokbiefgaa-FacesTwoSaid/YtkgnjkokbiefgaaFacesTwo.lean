/- FacesTwo: two who speak at once may be heard either way. -/
import Derived.Test.YtkgnjkokbiefgaaFacesTwoP
namespace Go.Proofs.Ytkgnjkokbiefgaa
set_option linter.unusedVariables false
set_option linter.unusedSimpArgs false
open Go.RowKit
def twoF (a b : Int) : List Ev := [(0, 2, a), (1, 2, b), (2, 3, a), (2, 3, b)]
theorem Own.evs_mk {w0 w : World} {b n : Nat} {cs : Array Value} {l : List Ev} {R : HProp} (hcs : cs.toList = l.flatMap evCells) (hn : n = l.length) (hm : n ≤ 1000) (h : Own w0 (blk b (.cells cs 49 (0, 0)) * R) w) : Own w0 (EvSl (.slice (some ⟨b, 0, none⟩) n n) l * R) w := by
  unfold EvSl
  subst hn
  have hsz : cs.size = l.length * 3 := by rw [← Array.length_toList, hcs, cells_len evCells 3 (fun _ => rfl)]
  refine Own.sl_mk (Nat.le_refl _) (by unfold maxLen; omega) (cells_len evCells 3 (fun _ => rfl) l) (by omega) (fun i hi => ?_) h
  rw [Nat.zero_add, ← Array.getElem?_toList, hcs]
theorem twoH_good {a b : Int} (ha : I64 a) (hb : I64 b) (alike : Bool) : ∀ e ∈ twoH a b alike, goodEv e := by
  intro e he
  unfold twoH at he
  cases alike <;> simp at he <;> rcases he with rfl | rfl | rfl | rfl | rfl | rfl <;> (refine ⟨?_, ?_, ?_⟩ <;> first | assumption | (unfold I64; omega) | (unfold I64; simp))
set_option maxRecDepth 100000 in
set_option maxHeartbeats 4000000 in
theorem facesTwo_law (w : World) (a : Int) (ha : I64 a) (b : Int) (hb : I64 b) (alike : Bool) :
    Calls Try.prog 10 #[.int .i64 a, .int .i64 b, .bool alike] w fun e w' => e = .returned (.bool true) ∧ Below w.heap.size w w' := by
  have HW0 := Lib.hid (Own.start w)
  by_cases a1 : a < 1
  · have t1 : decide (a < 1) = true := by simpa using a1
    have A1 := Lib.hid a1; have HA := Lib.hid ha; have HB := Lib.hid hb
    clear a1 ha hb
    go_enter Try.func10, Try.ntmps10
    go_wp2
    go_ret
    exact ⟨rfl, HW0.out.below⟩
  have t1 : decide (a < 1) = false := by simpa using a1
  by_cases a2 : 30 < a
  · have t2 : decide (30 < a) = true := by simpa using a2
    have A1 := Lib.hid a1; have A2 := Lib.hid a2; have HA := Lib.hid ha; have HB := Lib.hid hb
    clear a1 a2 ha hb
    go_enter Try.func10, Try.ntmps10
    go_wp2
    go_ret
    exact ⟨rfl, HW0.out.below⟩
  have t2 : decide (30 < a) = false := by simpa using a2
  by_cases a3 : b < 1
  · have t3 : decide (b < 1) = true := by simpa using a3
    have A1 := Lib.hid a1; have A2 := Lib.hid a2; have A3 := Lib.hid a3; have HA := Lib.hid ha; have HB := Lib.hid hb
    clear a1 a2 a3 ha hb
    go_enter Try.func10, Try.ntmps10
    go_wp2
    go_ret
    exact ⟨rfl, HW0.out.below⟩
  have t3 : decide (b < 1) = false := by simpa using a3
  by_cases a4 : 30 < b
  · have t4 : decide (30 < b) = true := by simpa using a4
    have A1 := Lib.hid a1; have A2 := Lib.hid a2; have A3 := Lib.hid a3; have A4 := Lib.hid a4; have HA := Lib.hid ha; have HB := Lib.hid hb
    clear a1 a2 a3 a4 ha hb
    go_enter Try.func10, Try.ntmps10
    go_wp2
    go_ret
    exact ⟨rfl, HW0.out.below⟩
  have t4 : decide (30 < b) = false := by simpa using a4
  by_cases a5 : a = b
  · have t5 : (a == b) = true := by simpa using a5
    have A1 := Lib.hid a1; have A2 := Lib.hid a2; have A3 := Lib.hid a3; have A4 := Lib.hid a4; have A5 := Lib.hid a5; have HA := Lib.hid ha; have HB := Lib.hid hb
    clear a1 a2 a3 a4 a5 ha hb
    go_enter Try.func10, Try.ntmps10
    go_wp2
    go_ret
    exact ⟨rfl, HW0.out.below⟩
  have t5 : (a == b) = false := by simpa using a5
  obtain ⟨h1, h2, h3, h4, h5⟩ := two_ok (by omega) (by omega) (by omega) (by omega) a5 alike
  have hgood := twoH_good ha hb alike
  have hE : facesErr (twoH a b alike) = 0 := h1
  have hhe : heardErr (twoH a b alike) 2 = 0 := by unfold heardErr; rw [if_neg (by simpa using h1)]; rfl
  have hhl : heardE (twoH a b alike) 2 = [a, b] := by unfold heardE; rw [hhe]; simp [h5]
  obtain ⟨b1, hb_b1⟩ : ∃ zz_, zz_ = (w).heap.size := ⟨_, rfl⟩
  obtain ⟨w1, hw_w1⟩ : ∃ zz_, zz_ = (w).alloc (.cells #[.int .i64 0, .int .i64 2, .int .i64 a, .int .i64 1, .int .i64 2, .int .i64 b, .int .i64 2, .int .i64 3, .int .i64 a, .int .i64 2, .int .i64 3, .int .i64 b] 49 (0, 0)) := ⟨_, rfl⟩
  have h_HO1 := (HW0.out).alloc (.cells #[.int .i64 0, .int .i64 2, .int .i64 a, .int .i64 1, .int .i64 2, .int .i64 b, .int .i64 2, .int .i64 3, .int .i64 a, .int .i64 2, .int .i64 3, .int .i64 b] 49 (0, 0))
  rw [← hb_b1, ← hw_w1] at h_HO1
  have HO1 := Lib.hid h_HO1
  clear h_HO1
  have HS1 : Hid (Own w (EvSl (.slice (some ⟨b1, 0, none⟩) 4 4) (twoF a b) * emp) w1) := Lib.hid (Own.evs_mk rfl rfl (by omega) HO1.out)
  have HS1b : Hid (Own w (Sl 49 3 (.slice (some ⟨b1, 0, none⟩) 4 4) 4 ((twoF a b).flatMap evCells) * emp) w1) := Lib.hid HS1.out
  have A1 := Lib.hid a1; have A2 := Lib.hid a2; have A3 := Lib.hid a3; have A4 := Lib.hid a4; have A5 := Lib.hid a5; have HA := Lib.hid ha; have HB := Lib.hid hb; have H1 := Lib.hid h1; have H2 := Lib.hid h2; have H3 := Lib.hid h3; have H4 := Lib.hid h4; have H5 := Lib.hid h5; have HGOOD := Lib.hid hgood; have HE := Lib.hid hE; have HHE := Lib.hid hhe; have HHL := Lib.hid hhl
  clear a1 a2 a3 a4 a5 ha hb h1 h2 h3 h4 h5 hgood hE hhe hhl
  clear HO1
  go_enter Try.func10, Try.ntmps10
  go_upto_region 4 with fail
  rw [← hb_b1, ← hw_w1]
  clear hb_b1 hw_w1
  go_upto_if 40 with fail
  go_cut [7] (fun v wx => Own w (EvSl v (twoH a b alike) * emp) wx)
  case first =>
    cases alike
    all_goals
      go_wp2_with (at_builtin; refine wpList_app rfl _ _ 47 rfl 49 3 24 _ info_ev Try.underlying47 rfl (by decide) rfl (HS1b.out.alloc' _) rfl (by rfl) (Rd_lit (by simp) (by unfold maxLen; omega)) (by intro u hu; simp at hu; rcases hu with rfl | rfl | rfl | rfl | rfl | rfl <;> rfl) (by unfold maxLen; omega) (by omega) ?_; intro v' w7 hown; have HO7 := Lib.hid hown; clear hown)
      go_meet
      exact HO7.out
  case rest =>
  have HO2 := Lib.hid hcut
  clear hcut HS1 HS1b
  have HRE := Lib.hid (EvSl_reads (w0 := w) (R := emp) (v := u7) HGOOD.out)
  go_wp2_with fail
  refine (facesOf_any _ _ HO2.out HRE.out).mono ?_
  rintro e w3 ⟨rfl, ho⟩
  rw [H2.out, H3.out, H4.out, HE.out, errV0]
  obtain ⟨fb, hb_fb⟩ : ∃ zz_, zz_ = (w3).heap.size := ⟨_, rfl⟩
  obtain ⟨w4, hw_w4⟩ : ∃ zz_, zz_ = (w3).alloc (.cells #[.bool true, .bool true, .bool alike] 83 (0, 0)) := ⟨_, rfl⟩
  have h_HO4 := (ho).alloc (.cells #[.bool true, .bool true, .bool alike] 83 (0, 0))
  rw [← hb_fb, ← hw_w4] at h_HO4
  have HO4 := Lib.hid h_HO4
  clear h_HO4
  clear ho
  go_upto_region 8 with fail
  rw [← hb_fb, ← hw_w4]
  clear hb_fb hw_w4
  go_wp2_with fail
  refine (facesHeard_any _ _ 2 HO4.out HRE.out.more).mono ?_
  rintro e w5 ⟨v5, rfl, ho⟩
  rw [HHE.out, errV0]
  rw [HHL.out] at ho
  obtain ⟨vb, voff, vcap, rfl, hc1, hc2, hcell, _⟩ := ho.ints_at (by simp)
  have c1 := hcell 0 (by simp)
  simp only [Nat.add_zero, List.getElem_cons_zero] at c1
  obtain ⟨g0, g1, g2, _⟩ := (show Own w (FaO fb true true alike * _) w5 from ho.perm (star_left_comm _ _ _)).fa
  have HO5 := Lib.hid ho
  clear ho hcell
  have tl : (([a, b] : List Int).length) = 2 := rfl
  rw [tl] at hc1 ⊢
  go_wp2
  go_ret
  exact ⟨rfl, HO5.out.below⟩
end Go.Proofs.Ytkgnjkokbiefgaa
