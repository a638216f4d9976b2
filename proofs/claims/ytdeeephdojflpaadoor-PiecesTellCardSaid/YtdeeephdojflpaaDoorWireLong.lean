/- WireLong: a word has eighteen bytes, whatever it knew; without its first byte it is none. -/
import Derived.Test.YtdeeephdojflpaaDoorWire3
import Derived.Test.YtdeeephdojflpaaDoorTold
namespace Go.Proofs.YtdeeephdojflpaaDoor
set_option linter.unusedVariables false
set_option linter.unusedSimpArgs false
open Go.RowKit
theorem wl_err {who word n : Int} (h : saidErr who word [n, n, 0, n, 1] ≠ 0) : who < 0 ∨ (¬ who < 0 ∧ 4 < who) ∨ (¬ who < 0 ∧ ¬ 4 < who ∧ word < 1) ∨ (¬ who < 0 ∧ ¬ 4 < who ∧ ¬ word < 1 ∧ 30 < word) ∨ (¬ who < 0 ∧ ¬ 4 < who ∧ ¬ word < 1 ∧ ¬ 30 < word ∧ n < 0) ∨ (¬ who < 0 ∧ ¬ 4 < who ∧ ¬ word < 1 ∧ ¬ 30 < word ∧ ¬ n < 0 ∧ 1000000 < n) := by
  apply Classical.byContradiction
  intro hc
  apply h
  have h1 : isMember who = true := by simp [isMember]; omega
  have h2 : isWord word = true := by simp [isWord]; omega
  have h3 : isCount n = true := by simp [isCount]; omega
  unfold saidErr vecErr
  simp [h1, h2, h3, isCount]
  try omega
theorem packS_size {who word : Int} {l : List Int} (h : saidErr who word l = 0) : (packS who word l).size = 18 ∧ (packS who word l).data.toList = packB who word l := by
  obtain ⟨_, _, hv⟩ := saidErr0 h
  have h5 := (vecErr0 hv).1
  unfold packS
  rw [if_pos h]
  refine ⟨?_, by simp⟩
  show ((packB who word l).toArray).size = 18
  rw [List.size_toArray, packB_len h5]
set_option maxRecDepth 100000 in
set_option maxHeartbeats 4000000 in
theorem wireLong_law (w : World) (hg : As.Handle w) (who : Int) (_hwho : I64 who) (word : Int) (_hword : I64 word) (n : Int) (hn : I64 n) :
    Calls Tryd.prog 5 #[.int .i64 who, .int .i64 word, .int .i64 n] w fun e w' => e = .returned (.bool true) ∧ Below w.heap.size w w' := by
  have HG := Lib.hid hg
  clear hg
  obtain ⟨b1, hb_b1⟩ : ∃ zz_, zz_ = (w).heap.size := ⟨_, rfl⟩
  obtain ⟨w1, hw_w1⟩ : ∃ zz_, zz_ = (w).alloc (.cells #[.int .i64 n, .int .i64 n, .int .i64 0, .int .i64 n, .int .i64 1] 3 (0, 0)) := ⟨_, rfl⟩
  have h_HO1 := ((Own.start w)).alloc (.cells #[.int .i64 n, .int .i64 n, .int .i64 0, .int .i64 n, .int .i64 1] 3 (0, 0))
  rw [← hb_b1, ← hw_w1] at h_HO1
  have HO1 := Lib.hid h_HO1
  clear h_HO1
  have HO2 : Hid (Own w (IntSl (.slice (some ⟨b1, 0, none⟩) 5 5) [n, n, 0, n, 1] * emp) w1) := Lib.hid (Own.litI [n, n, 0, n, 1] 5 rfl (by omega) HO1.out)
  have HRD : Hid (Reads w (IntSl (.slice (some ⟨b1, 0, none⟩) 5 5) [n, n, 0, n, 1] * emp) (.slice (some ⟨b1, 0, none⟩) 5 5) [n, n, 0, n, 1]) := Lib.hid (IntSl_reads (by intro x hx; simp at hx; unfold I64 at hn ⊢; omega))
  clear HO1 hn
  by_cases he : saidErr who word [n, n, 0, n, 1] = 0
  rotate_left
  · obtain ⟨mm, hmm⟩ := errV_some he
    have hc := wl_err he
    have HE := Lib.hid he; have HMM := Lib.hid hmm
    clear he hmm
    rcases hc with h1 | ⟨h1, h2⟩ | ⟨h1, h2, h3⟩ | ⟨h1, h2, h3, h4⟩ | ⟨h1, h2, h3, h4, h5⟩ | ⟨h1, h2, h3, h4, h5, h6⟩
    iterate 6
      focus
        go_enter Tryd.func5, Tryd.ntmps5
        go_wp2_with fail
        rw [← hb_b1, ← hw_w1]
        clear hb_b1 hw_w1
        refine (wpack_any who word _ _ HO2.out HRD.out).mono ?_
        rintro e w2 ⟨rfl, ho2⟩
        rw [HMM.out]
        have HO3 := Lib.hid ho2
        clear ho2
        go_wp2
        go_ret
        exact ⟨rfl, HO3.out.below⟩
  obtain ⟨hsz, hlist⟩ := packS_size he
  obtain ⟨T, hT⟩ : ∃ T, T = packS who word [n, n, 0, n, 1] := ⟨_, rfl⟩
  rw [← hT] at hsz
  have hT2 : unpackErr (T.extract 1 18).data.toList = 2 := unpack_short (by
    rw [Array.length_toList]
    have : (T.extract 1 18).size = 17 := by rw [ByteArray.size_extract]; omega
    show (T.extract 1 18).size ≠ 18
    omega)
  obtain ⟨m, hm⟩ : ∃ m, m = T.size := ⟨_, rfl⟩
  have HE := Lib.hid he; have HT := Lib.hid hT; have HT2 := Lib.hid hT2; have HLIST := Lib.hid hlist
  clear he hT hT2 hlist
  go_enter Tryd.func5, Tryd.ntmps5
  go_wp2_with fail
  rw [← hb_b1, ← hw_w1]
  clear hb_b1 hw_w1
  refine (wpack_any who word _ _ HO2.out HRD.out).mono ?_
  rintro e w2 ⟨rfl, ho2⟩
  rw [← HT.out, HE.out, errV0]
  have HO3 := Lib.hid ho2
  clear ho2
  go_wp2_with fail
  refine (wunpack_any _ HO3.out).mono ?_
  rintro e w3 ⟨v3, rfl, ho3⟩
  rw [HT2.out]
  obtain ⟨a3, c3, hs3⟩ := ho3.int_shape
  obtain ⟨l3, hl3⟩ : ∃ l, l = (unpackClock (T.extract 1 18).data.toList).length := ⟨_, rfl⟩
  rw [← hl3] at hs3
  subst hs3
  obtain ⟨p3, hp3⟩ : ∃ l, l = unpackWho (T.extract 1 18).data.toList := ⟨_, rfl⟩
  obtain ⟨q3, hq3⟩ : ∃ l, l = unpackWord (T.extract 1 18).data.toList := ⟨_, rfl⟩
  rw [← hp3, ← hq3]
  have HO4 := Lib.hid (ho3.alloc' (.cells #[.int .i64 p3, .int .i64 q3, .slice a3 l3 c3] 53 (0, 0)))
  clear ho3
  have HL3 := Lib.hid hl3; have HP3 := Lib.hid hp3; have HQ3 := Lib.hid hq3
  clear hl3 hp3 hq3
  go_wp2_with fail
  refine (sameErr_any HG.out 2 2 HO4.out).mono ?_
  rintro e w5 ⟨rfl, ho5⟩
  have HO5 := Lib.hid ho5
  clear ho5
  go_wp2
  go_ret
  exact ⟨rfl, HO5.out.below⟩
end Go.Proofs.YtdeeephdojflpaaDoor
