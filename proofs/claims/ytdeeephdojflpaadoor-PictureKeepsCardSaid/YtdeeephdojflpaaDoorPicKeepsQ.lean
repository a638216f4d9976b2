/- PictureKeeps: a round of the law, and its other parts. -/
import Derived.Test.YtdeeephdojflpaaDoorPicKeepsP
import Derived.Test.YtdeeephdojflpaaDoorTri
import Derived.Test.YtdeeephdojflpaaDoorTold
import Derived.Test.YtdeeephdojflpaaDoorStable2
namespace Go.Proofs.YtdeeephdojflpaaDoor
set_option linter.unusedVariables false
set_option linter.unusedSimpArgs false
open Go.RowKit Go.Maps
set_option maxRecDepth 100000 in
set_option maxHeartbeats 4000000 in
theorem shows_any {w0 w : World} {R : HProp} {p mb1 mb2 mb3 gb go gc n : Nat} (hg : As.Handle w0) (s : Pic) (all : Int) (hi : PcInv all s) (hall : all ≤ 1000000) (h : Own w0 (PicA p mb1 mb2 mb3 gb go gc n s * R) w) :
    Calls Tryd.prog 59 #[.pointer (some ⟨p, 0, none⟩), .int .i64 all] w fun e w' => e = .returned (.bool true) ∧ Own w0 (PicA p mb1 mb2 mb3 gb go gc n s * R) w' := by
  have hok := picOk_of hi hall
  cases hd : pcDone s
  · have HG := Lib.hid hg; have HI := Lib.hid hi; have H := Lib.hid h; have HOK := Lib.hid hok; have HD := Lib.hid hd
    clear hg hi h hok hd
    go_enter Tryd.func59, Tryd.ntmps59
    go_wp2_with fail
    refine (pSum_any s HOK.out H.out).mono ?_
    rintro e w1 ⟨rfl, ho⟩
    rw [HD.out, if_neg (by simp), if_neg (by simp), if_neg (by simp)]
    have HO := Lib.hid (ho.alloc' (.cells #[.int .i64 0, .int .i64 0] 108 (0, 0)))
    clear ho
    go_upto_region 2 with fail
    go_wp2_with fail
    refine (pDone_any s HO.out).mono ?_
    rintro e w2 ⟨rfl, ho⟩
    rw [HD.out]
    have HO2 := Lib.hid ho
    clear ho HO
    go_wp2_with fail
    refine (sameErr_any HG.out 6 6 HO2.out).mono ?_
    rintro e w3 ⟨rfl, ho⟩
    have HO3 := Lib.hid ho
    clear ho
    go_wp2
    go_ret
    exact ⟨rfl, HO3.out⟩
  obtain ⟨h1, h2, h3⟩ := hi.shows hd
  obtain ⟨Hd, hHd⟩ : ∃ H, H = pcHad s := ⟨_, rfl⟩
  obtain ⟨O, hO⟩ : ∃ H, H = s.onWay := ⟨_, rfl⟩
  rw [← hHd, ← hO] at h1
  rw [← hHd] at h2
  rw [← hO] at h3
  have hwr : IntKind.i64.wrap (Hd + O) = all := by rw [IntKind.wrap_i64, ← h1]; omega
  have t1 : decide (0 ≤ Hd) = true := decide_eq_true h2
  have t2 : decide (0 ≤ O) = true := decide_eq_true h3
  have t3 : (all == all) = true := by simp
  have HQQ := Lib.hid h
  clear h
  have HG := Lib.hid hg; have HI := Lib.hid hi; have HOK := Lib.hid hok; have HD := Lib.hid hd; have HHD := Lib.hid hHd; have HO := Lib.hid hO; have H1 := Lib.hid h1; have H2 := Lib.hid h2; have H3 := Lib.hid h3
  clear hg hi hok hd hHd hO h1 h2 h3
  go_enter Tryd.func59, Tryd.ntmps59
  go_wp2_with fail
  refine (pSum_any s HOK.out HQQ.out).mono ?_
  rintro e w1 ⟨rfl, ho⟩
  rw [HD.out, if_pos rfl, if_pos rfl, if_pos rfl, errV0, ← HHD.out, ← HO.out]
  obtain ⟨b1, hb_b1⟩ : ∃ zz_, zz_ = (w1).heap.size := ⟨_, rfl⟩
  obtain ⟨w2, hw_w2⟩ : ∃ zz_, zz_ = (w1).alloc (.cells #[.int .i64 Hd, .int .i64 O] 108 (0, 0)) := ⟨_, rfl⟩
  have h_HO2 := (ho).alloc (.cells #[.int .i64 Hd, .int .i64 O] 108 (0, 0))
  rw [← hb_b1, ← hw_w2] at h_HO2
  have HO2 := Lib.hid h_HO2
  clear h_HO2
  have HO3 : Hid (Own w0 (PicA p mb1 mb2 mb3 gb go gc n s * (SumB b1 Hd O * R)) w2) := Lib.hid HO2.out.second
  clear ho HO2
  go_upto_region 2 with fail
  rw [← hb_b1, ← hw_w2]
  clear hb_b1 hw_w2
  go_wp2_with fail
  refine (pDone_any s HO3.out).mono ?_
  rintro e w3 ⟨rfl, ho⟩
  rw [HD.out]
  have HO4 : Hid (Own w0 (SumB b1 Hd O * (PicA p mb1 mb2 mb3 gb go gc n s * R)) w3) := Lib.hid ho.second
  clear ho HO3
  obtain ⟨k0, k1, _⟩ := HO4.out.sumb
  go_wp2_with fail
  go_ret
  exact ⟨rfl, HO4.out.drop⟩
end Go.Proofs.YtdeeephdojflpaaDoor
