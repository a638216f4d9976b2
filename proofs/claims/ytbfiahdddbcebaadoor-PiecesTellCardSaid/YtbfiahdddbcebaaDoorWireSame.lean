/- mootsame.Said of two that are the same. -/
import Derived.Test.YtbfiahdddbcebaaDoorWire3
import Derived.Test.YtbfiahdddbcebaaDoorVec2
namespace Go.Proofs.YtbfiahdddbcebaaDoor
set_option linter.unusedVariables false
set_option linter.unusedSimpArgs false
open Go.RowKit
set_option maxRecDepth 100000 in
set_option maxHeartbeats 4000000 in
theorem sameSaid_eq {w0 w : World} {R : HProp} (who word : Int) (va vb : Value) (l : List Int) (h : Own w0 R w) (hA : Reads w0 R va l) (hB : Reads w0 R vb l) :
    Calls Tryd.prog 9 #[.agg #[.int .i64 who, .int .i64 word, va], .agg #[.int .i64 who, .int .i64 word, vb]] w fun e w' => e = .returned (.bool true) ∧ Own w0 R w' := by
  obtain ⟨ad, acap, rfl, _, _⟩ := (hA _ h).shape
  obtain ⟨bd, bcap, rfl, _, _⟩ := (hB _ h).shape
  obtain ⟨n, hn⟩ : ∃ n, n = l.length := ⟨_, rfl⟩
  rw [← hn] at hA hB ⊢
  obtain ⟨b1, hb_b1⟩ : ∃ zz_, zz_ = (w).heap.size := ⟨_, rfl⟩
  obtain ⟨w1, hw_w1⟩ : ∃ zz_, zz_ = (w).alloc (.cells #[.int .i64 who, .int .i64 word, .slice ad n acap] 24 (0, 0)) := ⟨_, rfl⟩
  have h_HO1 := (h).alloc (.cells #[.int .i64 who, .int .i64 word, .slice ad n acap] 24 (0, 0))
  rw [← hb_b1, ← hw_w1] at h_HO1
  have HO1 := Lib.hid h_HO1
  clear h_HO1
  obtain ⟨b2, hb_b2⟩ : ∃ zz_, zz_ = (w1).heap.size := ⟨_, rfl⟩
  obtain ⟨w2, hw_w2⟩ : ∃ zz_, zz_ = (w1).alloc (.cells #[.int .i64 who, .int .i64 word, .slice bd n bcap] 24 (0, 0)) := ⟨_, rfl⟩
  have h_HO2 := (HO1.out).alloc (.cells #[.int .i64 who, .int .i64 word, .slice bd n bcap] 24 (0, 0))
  rw [← hb_b2, ← hw_w2] at h_HO2
  have HO2 := Lib.hid h_HO2
  clear h_HO2
  obtain ⟨d0, d1, d2, _⟩ := (show Own w0 (SdB b2 who word (.slice bd n bcap) * _) w2 from HO2.out).sdB
  obtain ⟨c0, c1, c2, _⟩ := (show Own w0 (SdB b1 who word (.slice ad n acap) * _) w2 from HO2.out.drop).sdB
  have hra := hA.more.more _ HO2.out
  have hrb := hB.more.more _ HO2.out
  clear h HO1
  have HA := Lib.hid hA; have HB := Lib.hid hB; have HRA := Lib.hid hra; have HRB := Lib.hid hrb; have HN := Lib.hid hn
  clear hA hB hra hrb hn
  go_enter Tryd.func9, Tryd.ntmps9
  go_upto_region 1 with fail
  have hq_b2 : b1 + 1 = b2 := by rw [hb_b2, hw_w1, hb_b1, World.size_alloc]
  rw [← hb_b1, hq_b2, ← hw_w1, ← hw_w2]
  clear hq_b2 hb_b1 hb_b2 hw_w1 hw_w2
  go_wp2_with fail
  refine (sameInts_any _ _ l l _ HRA.out HRB.out).mono ?_
  rintro e w' ⟨rfl, nq, rfl⟩
  have hll : (l == l) = true := by simp
  rw [hll]
  go_wp2
  go_ret
  exact ⟨rfl, (HO2.out.drewN _).drop.drop⟩
end Go.Proofs.YtbfiahdddbcebaaDoor
