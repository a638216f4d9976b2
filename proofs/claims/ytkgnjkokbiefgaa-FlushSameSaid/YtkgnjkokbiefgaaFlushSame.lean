/- FlushSame: who goes on together heard the same; nobody heard a word twice. -/
import Derived.Test.YtkgnjkokbiefgaaFlushSameR
namespace Go.Proofs.Ytkgnjkokbiefgaa
set_option linter.unusedVariables false
set_option linter.unusedSimpArgs false
open Go.RowKit
theorem fs_say : flSayErr (flNew 2) 0 6 = 0 := by decide
theorem fs_next : flNextErr (flSay (flNew 2) 0 6) [0, 1] = 0 := by decide
theorem fs_err : flHeardErr (flChange (flSay (flNew 2) 0 6) [0, 1]) 1 0 = 0 := by decide
theorem fs_heard : flHeard (flChange (flSay (flNew 2) 0 6) [0, 1]) 1 0 = [6] := by decide
set_option maxRecDepth 100000 in
set_option maxHeartbeats 4000000 in
theorem flushSame_law (w : World) (n : Int) (_hn : I64 n) (vs : Value) (steps : List (List Int)) (hvs : Rows2 w vs steps) (vt : Value) (sets : List (List Int)) (hvt : Rows2 w vt sets) :
    Calls Try.prog 11 #[.int .i64 n, vs, vt] w fun e w' => e = .returned (.bool true) ∧ Below w.heap.size w w' := by
  obtain ⟨sad, scap, rfl, hsc1, hsc2⟩ := hvs.shape
  obtain ⟨tad, tcap, rfl, htc1, htc2⟩ := hvt.shape
  have hfs := fs_say; have hfn := fs_next; have hfe := fs_err; have hfh := fs_heard
  have hi2 := flInv_new 2 (by omega)
  obtain ⟨S0, hS0⟩ : ∃ S, S = flNew 2 := ⟨_, rfl⟩
  rw [← hS0] at hfs hfn hfe hfh hi2
  obtain ⟨S1, hS1⟩ : ∃ S, S = flSay S0 0 6 := ⟨_, rfl⟩
  have hi3 : flInv S1 := by rw [hS1]; exact flInv_say hi2 0 6
  rw [← hS1] at hfn hfe hfh
  obtain ⟨S2, hS2⟩ : ∃ S, S = flChange S1 [0, 1] := ⟨_, rfl⟩
  have hi4 : flInv S2 := by rw [hS2]; exact flInv_change hi3 _
  rw [← hS2] at hfe hfh
  have HVS := Lib.hid hvs; have HVT := Lib.hid hvt; have HFS := Lib.hid hfs; have HFN := Lib.hid hfn; have HFE := Lib.hid hfe; have HFH := Lib.hid hfh; have HI2 := Lib.hid hi2; have HI3 := Lib.hid hi3; have HI4 := Lib.hid hi4; have HS0 := Lib.hid hS0; have HS1 := Lib.hid hS1; have HS2 := Lib.hid hS2
  clear hvs hvt hfs hfn hfe hfh hi2 hi3 hi4 hS0 hS1 hS2
  go_enter Try.func11, Try.ntmps11
  go_wp2_with fail
  refine (flNew_yes 2 (by rfl) (Own.start w)).mono ?_
  rintro e w1 ⟨q, rfl, ho1⟩
  rw [← HS0.out] at ho1
  rw [errV0]
  have HO1 := Lib.hid ho1
  clear ho1
  go_wp2_with fail
  refine (flSay_any q S0 0 6 HI2.out.1.ok HI2.out.1.few HO1.out).mono ?_
  rintro e w2 ⟨rfl, ho2⟩
  rw [HFS.out, errV0]
  rw [← HS1.out] at ho2
  obtain ⟨bl, hb_bl⟩ : ∃ zz_, zz_ = (w2).heap.size := ⟨_, rfl⟩
  obtain ⟨wl, hw_wl⟩ : ∃ zz_, zz_ = (w2).alloc (.cells #[.int .i64 0, .int .i64 1] 3 (0, 0)) := ⟨_, rfl⟩
  have h_HO2 := (ho2).alloc (.cells #[.int .i64 0, .int .i64 1] 3 (0, 0))
  rw [← hb_bl, ← hw_wl] at h_HO2
  have HO2 := Lib.hid h_HO2
  clear h_HO2
  have HO3 : Hid (Own w (FlP q S1 * (IntSl (.slice (some ⟨bl, 0, none⟩) 2 2) [0, 1] * emp)) wl) := Lib.hid (Own.litI [0, 1] 2 rfl (by omega) HO2.out).second
  clear ho2 HO2 HO1
  go_wp2_with fail
  rw [← hb_bl, ← hw_wl]
  clear hb_bl hw_wl
  refine (flChange_yes q S1 _ [0, 1] HI3.out.1 HFN.out (IntSl_reads (by intro x hx; simp at hx; unfold I64; omega)) HO3.out).mono ?_
  rintro e w4 ⟨v4, rfl, ho4⟩
  rw [← HS2.out] at ho4
  obtain ⟨a4, c4, hv4⟩ := ho4.int_shape
  rw [show ([0, 1] : List Int).length = 2 from rfl] at hv4
  subst hv4
  rw [errV0]
  obtain ⟨y, hy⟩ : ∃ y, y = S1.n + 1 := ⟨_, rfl⟩
  rw [← hy]
  obtain ⟨bz, hb_bz⟩ : ∃ zz_, zz_ = (w4).heap.size := ⟨_, rfl⟩
  obtain ⟨wz, hw_wz⟩ : ∃ zz_, zz_ = (w4).alloc (.cells #[.int .i64 y, .slice a4 2 c4] 39 (0, 0)) := ⟨_, rfl⟩
  have h_HO5 := (ho4).alloc (.cells #[.int .i64 y, .slice a4 2 c4] 39 (0, 0))
  rw [← hb_bz, ← hw_wz] at h_HO5
  have HO5 := Lib.hid h_HO5
  clear h_HO5
  have HO6 := Lib.hid HO5.out.drop.drop
  clear ho4 HO5 HO3
  have HY := Lib.hid hy
  clear hy
  go_upto_region 5 with fail
  rw [← hb_bz, ← hw_wz]
  clear hb_bz hw_wz
  go_wp2_with fail
  refine (flHeard_any q S2 1 0 HI4.out.1.ok (by unfold I64; omega) HO6.out).mono ?_
  rintro e w7 ⟨v7, rfl, ho7⟩
  rw [HFE.out, errV0]
  rw [HFH.out] at ho7
  obtain ⟨b7, off7, cap7, hv7, _, _, hc7, _⟩ := ho7.ints_at (by simp)
  subst hv7
  have x0 : w7.cell? ⟨b7, off7, none⟩ = some (.int .i64 6) := by have := hc7 0 (by simp); simpa using this
  have HO7 := Lib.hid ho7
  clear ho7 hc7
  go_upto_region 8 with fail
  clear x0
  cases hgn : isGroup n
  · obtain ⟨mm, hmm⟩ := errV_some (n := 1) (by decide)
    have HGN := Lib.hid hgn; have HMM := Lib.hid hmm
    clear hgn hmm
    go_wp2_with fail
    refine (flNew_no n HGN.out).mono ?_
    rintro e w8 ⟨rfl, rfl⟩
    rw [HMM.out]
    go_wp2
    go_ret
    exact ⟨rfl, HO7.out.below⟩
  obtain ⟨N, rfl⟩ : ∃ N : Nat, n = N := ⟨n.toNat, by simp [isGroup] at hgn; omega⟩
  have hN5 : N ≤ 5 := by simp [isGroup] at hgn; omega
  have HGN := Lib.hid hgn
  clear hgn
  go_wp2_with fail
  refine (flNew_yes N HGN.out HO7.out).mono ?_
  rintro e w8 ⟨p, rfl, ho8⟩
  rw [errV0]
  have HO8 := Lib.hid ho8.only
  clear ho8 HO7
  go_upto_block 0 with fail
  go_cut [] (fun wx => ∃ s, flInv s ∧ Own w (FlP p s * emp) wx)
  case first =>
    refine fsMain w p N hN5 steps sets sad tad scap tcap hsc1 hsc2 htc1 htc2 HVS HVT HO8 ?_
    intros
    go_step
    go_step
    go_meet
    assumption
  case rest =>
  obtain ⟨s, hi, hp⟩ := hcut
  have HP := Lib.hid hp
  have HI := Lib.hid hi
  clear hp hi HO8
  go_upto_block 9 with fail
  go_cut [] (fun wx => Own w (FlP p s * emp) wx)
  case first =>
    refine fsEnd w p s HI.out HP ?_
    intros
    go_step
    go_step
    go_meet
    assumption
  case rest =>
  have HP2 := Lib.hid hcut
  clear hcut HP
  go_wp2
  go_ret
  exact ⟨rfl, HP2.out.below⟩
end Go.Proofs.Ytkgnjkokbiefgaa
