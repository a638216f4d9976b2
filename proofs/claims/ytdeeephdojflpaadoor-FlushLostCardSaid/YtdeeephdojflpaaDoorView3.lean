/- Contracts of package view: Shared, most. -/
import Derived.Test.YtdeeephdojflpaaDoorView2
namespace Go.Proofs.YtdeeephdojflpaaDoor
set_option linter.unusedVariables false
set_option linter.unusedSimpArgs false
open Go.RowKit
theorem keepB_le (B l : List Int) : (keepB B l).length ≤ l.length := List.length_filter_le _ _
set_option maxRecDepth 100000 in
set_option maxHeartbeats 4000000 in
theorem shared_any {w0 w : World} {R : HProp} (va vb : Value) (A B : List Int) (hA : Reads w0 R va A) (hB : Reads w0 R vb B) (hlen : A.length ≤ 100000) (h : Own w0 R w) :
    Calls Tryd.prog 78 #[va, vb] w fun e w' => ∃ v', e = .returned v' ∧ Own w0 (IntSl v' (keepB B A) * R) w' := by
  obtain ⟨bd, bcap, hvb, _, _⟩ := (hB _ h).shape
  subst hvb
  have hAI := (hA _ h).2
  have ho := h.alloc (.cells #[.slice bd B.length bcap] 43)
  obtain ⟨c, hc⟩ : ∃ c, c = w.heap.size := ⟨_, rfl⟩
  obtain ⟨w1, hw1⟩ : ∃ w1, w1 = w.alloc (.cells #[.slice bd B.length bcap] 43) := ⟨_, rfl⟩
  rw [← hc, ← hw1] at ho
  have HO := Lib.hid ho
  have HA1 := Lib.hid (hA.more _ ho)
  have HBB : Hid (∀ w', Own w0 (blk c (.cells #[.slice bd B.length bcap] 43 (0, 0)) * R) w' → w'.cell? ⟨c, 0, none⟩ = some (.slice bd B.length bcap) ∧ Ints w' (.slice bd B.length bcap) B) := Lib.hid (fun w' h' => ⟨by rw [h'.cell]; rfl, hB.more _ h'⟩)
  have H := Lib.hid h; have HA := Lib.hid hA; have HB := Lib.hid hB; have HAI := Lib.hid hAI
  clear h hA hB hAI
  clear ho
  go_enter Tryd.func78, Tryd.ntmps78
  go_upto_region 1 with fail
  rw [← hc, ← hw1]
  clear hc hw1
  go_wp2_with fail
  refine (cloneInts_any HO.out va A HA1.out hlen).mono ?_
  rintro e w2 ⟨v1, rfl, ho⟩
  have HO2 := Lib.hid ho
  clear ho
  go_wp2_with fail
  refine (del_any c v1 _ A B HAI.out HBB HO2.out).mono ?_
  rintro e w3 ⟨v2, rfl, ho⟩
  have HO3 := Lib.hid ho
  clear ho
  go_wp2
  go_ret
  exact ⟨v2, rfl, (HO3.out.perm (star_left_comm _ _ _)).drop⟩
def mostB (A B : List Int) : Bool := decide ((A.length : Int) < 2 * ((keepB B A).length : Int))
set_option maxRecDepth 100000 in
set_option maxHeartbeats 4000000 in
theorem most_any {w0 w : World} {R : HProp} (va vb : Value) (A B : List Int) (hA : Reads w0 R va A) (hB : Reads w0 R vb B) (hlen : A.length ≤ 100000) (h : Own w0 R w) :
    Calls Tryd.prog 74 #[va, vb] w fun e w' => e = .returned (.bool (mostB A B)) ∧ Own w0 R w' := by
  obtain ⟨ad, acap, hva, hac, hac2⟩ := (hA _ h).shape
  subst hva
  have hk := keepB_le B A
  obtain ⟨K, hK⟩ : ∃ K, K = (keepB B A).length := ⟨_, rfl⟩
  rw [← hK] at hk
  have hm : decide ((A.length : Int) < 2 * (K : Int)) = mostB A B := by unfold mostB; rw [hK]
  have H := Lib.hid h; have HA := Lib.hid hA; have HB := Lib.hid hB; have HK := Lib.hid hK
  clear h hA hB hK
  have HMB := Lib.hid hm
  clear hm
  go_enter Tryd.func74, Tryd.ntmps74
  go_wp2_with fail
  refine (shared_any _ vb A B HA.out HB.out hlen H.out).mono ?_
  rintro e w2 ⟨v1, rfl, ho⟩
  obtain ⟨ad1, cap1, hs1, _⟩ := Own.rd ho
  rw [← HK.out] at hs1
  subst hs1
  have HO2 := Lib.hid ho
  clear ho
  go_wp2
  go_ret
  exact ⟨by rw [← HMB.out]; rfl, HO2.out.drop⟩
end Go.Proofs.YtdeeephdojflpaaDoor
