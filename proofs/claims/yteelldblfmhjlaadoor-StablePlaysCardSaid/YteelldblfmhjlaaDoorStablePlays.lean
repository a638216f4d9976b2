/- StablePlays: how far any member is told to have come: what is refused, its row, the least of all, what may be forgotten. -/
import Derived.Test.YteelldblfmhjlaaDoorStablePlaysR
import Derived.Test.YteelldblfmhjlaaDoorLeaderBack
import Derived.Deep.DeepCutAuto
import Derived.Deep.CutBlock
namespace Go.Proofs.YteelldblfmhjlaaDoor
set_option linter.unusedVariables false
set_option linter.unusedSimpArgs false
open Go.RowKit
set_option maxRecDepth 100000 in
set_option maxHeartbeats 4000000 in
theorem stablePlays_law (w : World) (hg : As.Handle w) (n : Int) (hn : I64 n) (wv : Value) (wl : List Int) (hwl : Ints w wv wl) (lv : Value) (ls : List (List Int)) (hls : Rows2 w lv ls) (many : Int) (hmany : I64 many) :
    Calls Tryd.prog 4 #[.int .i64 n, wv, lv, .int .i64 many] w fun e w' => e = .returned (.bool true) ∧ Below w.heap.size w w' := by
  obtain ⟨wad, wcap, rfl, hw1, hw2⟩ := hwl.shape
  obtain ⟨lad, lcap, rfl, hl1, hl2⟩ := hls.shape
  have HWL := Lib.hid hwl; have HLS := Lib.hid hls; have HG := Lib.hid hg; have HN := Lib.hid hn; have HMANY := Lib.hid hmany
  clear hwl hls hg hn hmany
  cases hb : isGroup n
  · have ex : n < 2 ∨ (¬ n < 2 ∧ 5 < n) := isGroup_cases hb
    have HB := Lib.hid hb
    clear hb
    rcases ex with h1 | ⟨h1, h2⟩
    all_goals
      go_enter Tryd.func4, Tryd.ntmps4
      go_wp2_with fail
      refine (stableNew_no _ HB.out).mono ?_
      rintro e w' ⟨rfl, rfl⟩
      go_wp2_with fail
      refine (sameErr_any HG.out 1 1 (Own.start w)).mono ?_
      rintro e w5 ⟨rfl, ho⟩
      rw [show (((1 : Nat) : Int) == 1) = true from rfl]
      go_wp2
      go_ret
      exact ⟨rfl, ho.below⟩
  have hgr : 2 ≤ n ∧ n ≤ 5 := by simp [isGroup] at hb; omega
  obtain ⟨N, rfl⟩ := Int.eq_ofNat_of_zero_le (show 0 ≤ n by omega)
  have hN1 : 2 ≤ N := by omega
  have hN2 : N ≤ 5 := by omega
  have s1 : ¬ (N : Int) < 2 := by omega
  have s2 : ¬ (5 : Int) < (N : Int) := by omega
  have hmk := ints_made hb
  clear hgr
  have HB := Lib.hid hb
  clear hb
  go_enter Tryd.func4, Tryd.ntmps4
  go_wp2_with fail
  refine (stableNew_yes N HB.out (Own.start w)).mono ?_
  rintro e w' ⟨p, rfl, ho⟩
  go_wp2_with fail
  refine (sameErr_any HG.out 0 0 ho).mono ?_
  rintro e w5 ⟨rfl, ho⟩
  rw [show (((0 : Nat) : Int) == 0) = true from rfl]
  obtain ⟨rb, hrb⟩ : ∃ q, q = w5.heap.size := ⟨_, rfl⟩
  have ho1 := (ho.alloc (.cells (Array.replicate N (.slice none 0 0)) 22)).tab_nils (by unfold maxLen; omega) (by omega)
  obtain ⟨w6, hw6⟩ : ∃ q, q = w5.alloc (.cells (Array.replicate N (.slice none 0 0)) 22) := ⟨_, rfl⟩
  rw [← hrb, ← hw6] at ho1
  have HO : Hid (Own w (RowT rb (List.replicate N (.slice none 0 0, [])) * (StableP p (List.replicate N zero5) * emp)) w6) := Lib.hid (ho1.perm (by unfold RowT; rw [List.length_replicate]))
  clear ho ho1
  go_upto_block 0 with fail
  rw [← hrb, ← hw6]
  clear hrb hw6 hmk
  go_cut [14] (fun _ wx => ∃ rs : List (Value × List Int), rs.length = N ∧ rs.map (·.2) = List.replicate N zero5 ∧ Own w (RowT rb rs * (StableP p (List.replicate N zero5) * emp)) wx)
  case first =>
    refine spInit w rb N _ hN1 hN2 HO ?_
    intros
    go_step
    go_step
    go_meet
    assumption
  case rest =>
  obtain ⟨rs0, hl0, hz0, hp0⟩ := hcut
  have HZ0 := Lib.hid (show rs0.length = N ∧ rowsOk (rs0.map (·.2)) from ⟨hl0, by rw [hz0]; exact rowsOk_zero N⟩)
  have HP0 : Hid (Own w (StableP p (rs0.map (·.2)) * (RowT rb rs0 * emp)) wc) := Lib.hid (by rw [hz0]; exact hp0.perm (by ac_rfl))
  clear hl0 hz0 hp0 HO
  go_wp2_with fail
  go_loopw [15] (fun iv wr => ∃ (k : Nat) (rs : List (Value × List Int)), k ≤ wl.length ∧ k ≤ 60 ∧ iv = .int .i64 k ∧ Hid (rs.length = N ∧ rowsOk (rs.map (·.2))) ∧ Hid (Own w (StableP p (rs.map (·.2)) * (RowT rb rs * emp)) wr)) (fun iv _ => wl.length - (intOf iv).toNat)
  case atStart => exact ⟨0, rs0, Nat.zero_le _, Nat.zero_le _, rfl, HZ0, HP0⟩
  case round =>
    clear HZ0 HP0
    obtain ⟨k, rs, hk, hk2, rfl, HI, HP⟩ := hrel
    by_cases h1 : k < wl.length
    rotate_left
    · go_wp2
      go_ret
      exact ⟨rfl, HP.out.below⟩
    by_cases h2 : k < ls.length
    rotate_left
    · go_wp2
      go_ret
      exact ⟨rfl, HP.out.below⟩
    by_cases h3 : k < 60
    rotate_left
    · go_wp2
      go_ret
      exact ⟨rfl, HP.out.below⟩
    go_upto_block 3 with fail
    go_cut [] (fun wx => ∃ rs2 : List (Value × List Int), rs2.length = N ∧ rowsOk (rs2.map (·.2)) ∧ Own w (StableP p (rs2.map (·.2)) * (RowT rb rs2 * emp)) wx)
    case first =>
      refine spRound w p rb N k many wl ls rs wad lad wcap lcap HG hN1 hN2 h1 h2 hw1 hw2 hl1 hl2 HMANY HWL HLS HI.out.1 (Lib.hid HI.out.2) HP ?_
      intros
      go_step
      go_step
      go_meet
      assumption
    case rest =>
    obtain ⟨rs2, hI1, hI2, hP2⟩ := hcut
    have HI2 := Lib.hid (show rs2.length = N ∧ rowsOk (rs2.map (·.2)) from ⟨hI1, hI2⟩)
    have HP2 := Lib.hid hP2
    clear hI1 hI2 hP2
    go_wp2_with fail
    go_roundw
    case rel => exact ⟨k + 1, rs2, by omega, by omega, by go_num, HI2, HP2⟩
    case measure => simp [intOf]; omega
end Go.Proofs.YteelldblfmhjlaaDoor
