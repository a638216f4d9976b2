/- Contracts of package history, continued: Before. -/
import Derived.Test.YtddbjcpfgjcmnaaHist6
namespace Go.Proofs.Ytddbjcpfgjcmnaa
set_option linter.unusedVariables false
set_option linter.unusedSimpArgs false
open Go.RowKit
def befErr (hs : List Ev) (i k : Int) : Nat := if (histR hs).2 ≠ 0 then (histR hs).2 else if insideB hs.length i || insideB hs.length k then 1 else 0
def befB (hs : List Ev) (i k : Int) : Bool := decide (befErr hs i k = 0) && bef hs k.toNat i.toNat
theorem insideB_no {n : Nat} {i : Int} (h : insideB n i = false) : 0 ≤ i ∧ i < n := by
  unfold insideB at h; simp at h; exact h
set_option maxRecDepth 100000 in
set_option maxHeartbeats 4000000 in
theorem hBefore_any {w0 w : World} {R : HProp} (v : Value) (hs : List Ev) (i k : Int) (hi : I64 i) (hk : I64 k) (h : Own w0 R w) (hv : ReadsE w0 R v hs) :
    Calls Try.prog 11 #[v, .int .i64 i, .int .i64 k] w fun e w' => e = .returned (.tuple #[.bool (befB hs i k), errV (befErr hs i k)]) ∧ Own w0 R w' := by
  obtain ⟨had, hcap, rfl, hc1, hc2⟩ := (hv _ h).shape
  obtain ⟨E, hE⟩ : ∃ E, E = (histR hs).2 := ⟨_, rfl⟩
  by_cases h0 : E = 0
  rotate_left
  · have hB : befErr hs i k = E := by unfold befErr; rw [if_pos (by rw [← hE]; exact h0), ← hE]
    have hb_ : befB hs i k = false := by unfold befB; rw [hB]; simp [h0]
    have hee := errV_ne h0
    have H := Lib.hid h; have HV := Lib.hid hv; have HE := Lib.hid hE; have H0 := Lib.hid h0; have HEE := Lib.hid hee; have HB := Lib.hid hB; have HB_ := Lib.hid hb_
    clear h hv hE h0 hee hB hb_
    go_enter Try.func11, Try.ntmps11
    go_wp2_with fail
    refine (hRight_any _ hs H.out HV.out).mono ?_
    rintro e w2 ⟨rfl, ho⟩
    rw [← HE.out, HEE.out]
    have HO2 := Lib.hid ho
    clear ho
    go_wp2
    go_ret2
    exact ⟨by rw [HB.out, HB_.out]; exact congrArg (fun z => Ending.returned (.tuple #[.bool false, z])) HEE.out.symm, HO2.out⟩
  have hee : errV E = .nilIface := by rw [h0]; rfl
  have hlen : hs.length ≤ 60 := ((histR_ok hs).1 (by rw [← hE]; exact h0)).1
  have HE := Lib.hid hE; have HEE := Lib.hid hee
  have hB : befErr hs i k = if insideB hs.length i || insideB hs.length k then 1 else 0 := by unfold befErr; rw [if_neg (by rw [← hE]; simpa using h0)]
  clear hE hee
  have hin : ([i, k].any (insideB hs.length)) = (insideB hs.length i || insideB hs.length k) := by simp
  obtain ⟨X, hX⟩ : ∃ X, X = (insideB hs.length i || insideB hs.length k) := ⟨_, rfl⟩
  rw [← hX] at hin hB
  cases X
  rotate_left
  · have hb_ : befB hs i k = false := by unfold befB; rw [hB]; simp
    rw [if_pos rfl] at hB
    have H := Lib.hid h; have HV := Lib.hid hv; have H0 := Lib.hid h0; have HB := Lib.hid hB; have HB_ := Lib.hid hb_; have HX := Lib.hid hX; have HIN := Lib.hid hin
    clear h hv h0 hB hb_ hX hin
    go_enter Try.func11, Try.ntmps11
    go_wp2_with fail
    refine (hRight_any _ hs H.out HV.out).mono ?_
    rintro e w2 ⟨rfl, ho⟩
    rw [← HE.out, HEE.out]
    obtain ⟨b1, hb_b1⟩ : ∃ zz_, zz_ = (w2).heap.size := ⟨_, rfl⟩
    obtain ⟨w1, hw_w1⟩ : ∃ zz_, zz_ = (w2).alloc (.cells #[.int .i64 i, .int .i64 k] 3 (0, 0)) := ⟨_, rfl⟩
    have h_HO1 := (ho).alloc (.cells #[.int .i64 i, .int .i64 k] 3 (0, 0))
    rw [← hb_b1, ← hw_w1] at h_HO1
    have HO1 := Lib.hid h_HO1
    clear h_HO1
    clear ho
    have HR : Hid (Reads w0 (blk b1 (.cells #[.int .i64 i, .int .i64 k] 3 (0, 0)) * R) (.slice (some ⟨b1, 0, none⟩) 2 2) [i, k]) := Lib.hid (fun w' ho => ⟨Rd_one (cs := [.int .i64 i, .int .i64 k]) (fun j u hu => by rw [cell_of_heap ho.blk_at.1]; simpa using hu) (by simp) (by unfold maxLen; simp), by intro x hx; simp at hx; rcases hx with rfl | rfl <;> assumption⟩)
    go_wp2_with fail
    rw [← hb_b1, ← hw_w1]
    clear hb_b1 hw_w1
    refine (inside_any _ _ hs [i, k] HO1.out HV.out.more HR.out).mono ?_
    rintro e w3 ⟨rfl, ho⟩
    rw [HIN.out]
    have HO2 := Lib.hid ho.drop
    clear ho
    go_wp2
    go_ret2
    exact ⟨by rw [HB.out, HB_.out]; rfl, HO2.out⟩
  · rw [if_neg (by simp)] at hB
    have hX2 := hX.symm
    rw [Bool.or_eq_false_iff] at hX2
    obtain ⟨i1, i2⟩ := insideB_no hX2.1
    obtain ⟨k1, k2⟩ := insideB_no hX2.2
    obtain ⟨a, rfl⟩ : ∃ a : Nat, i = (a : Int) := ⟨i.toNat, by omega⟩
    obtain ⟨c, rfl⟩ : ∃ c : Nat, k = (c : Int) := ⟨k.toNat, by omega⟩
    have hb_ : befB hs a c = bef hs c a := by unfold befB; rw [hB]; simp
    obtain ⟨n, hn⟩ : ∃ n, n = hs.length := ⟨_, rfl⟩
    have h6 := (fun w4 (ho : Own w0 R w4) => hPasts_any (.slice had hs.length hcap) hs ho hv hlen)
    rw [← hn] at i2 k2 hlen hv h6 hc1
    rw [← hn]
    have H := Lib.hid h; have HV := Lib.hid hv; have H0 := Lib.hid h0; have HB := Lib.hid hB; have HB_ := Lib.hid hb_; have HX := Lib.hid hX; have HX2 := Lib.hid hX2; have HIN := Lib.hid hin; have HN := Lib.hid hn; have H6 := Lib.hid h6
    clear h hv h0 hB hb_ hX hX2 hin hn h6
    go_enter Try.func11, Try.ntmps11
    go_wp2_with fail
    refine (hRight_any _ hs H.out HV.out).mono ?_
    rintro e w2 ⟨rfl, ho⟩
    rw [← HE.out, HEE.out]
    obtain ⟨b1, hb_b1⟩ : ∃ zz_, zz_ = (w2).heap.size := ⟨_, rfl⟩
    obtain ⟨w1, hw_w1⟩ : ∃ zz_, zz_ = (w2).alloc (.cells #[.int .i64 (a : Int), .int .i64 (c : Int)] 3 (0, 0)) := ⟨_, rfl⟩
    have h_HO1 := (ho).alloc (.cells #[.int .i64 (a : Int), .int .i64 (c : Int)] 3 (0, 0))
    rw [← hb_b1, ← hw_w1] at h_HO1
    have HO1 := Lib.hid h_HO1
    clear h_HO1
    clear ho
    have HR : Hid (Reads w0 (blk b1 (.cells #[.int .i64 (a : Int), .int .i64 (c : Int)] 3 (0, 0)) * R) (.slice (some ⟨b1, 0, none⟩) 2 2) [(a : Int), (c : Int)]) := Lib.hid (fun w' ho => ⟨Rd_one (cs := [.int .i64 (a : Int), .int .i64 (c : Int)]) (fun j u hu => by rw [cell_of_heap ho.blk_at.1]; simpa using hu) (by simp) (by unfold maxLen; simp), by intro x hx; simp at hx; rcases hx with rfl | rfl <;> assumption⟩)
    go_wp2_with fail
    rw [← hb_b1, ← hw_w1]
    clear hb_b1 hw_w1
    refine (inside_any _ _ hs [(a : Int), (c : Int)] HO1.out HV.out.more HR.out).mono ?_
    rintro e w3 ⟨rfl, ho⟩
    rw [HIN.out]
    have HO2 := Lib.hid ho.drop
    clear ho
    go_wp2_with fail
    refine (H6.out _ HO2.out).mono ?_
    rintro e w4 ⟨rb, rs, rfl, hm, ho⟩
    have hrow : (pastsR hs n)[c]? = some ((pastsR hs n).getD c []) := by
      rw [List.getD_eq_getElem?_getD, List.getElem?_eq_getElem (by rw [pastsR_len]; omega)]; rfl
    obtain ⟨cv, hcv⟩ := map_at hm hrow
    obtain ⟨r, hr⟩ : ∃ r, r = (pastsR hs n).getD c [] := ⟨_, rfl⟩
    have hrl : r.length = n := by
      rw [hr, pastsR_row hs n _ (by rw [List.getD_eq_getElem?_getD, List.getElem?_eq_getElem (by rw [pastsR_len]; omega)]; exact List.getElem_mem _)]
      exact HN.out.symm
    rw [← hr] at hcv
    obtain ⟨cb, co, ccap, rfl⟩ := ho.bt_shape hcv (by omega)
    obtain ⟨_, g2, g3, _, g5, _⟩ := ho.bt_put hcv rfl (by omega)
    have c1 := ho.bt_cell hcv
    have d1 := g5 a (bef hs c a) (by unfold bef; rw [← HN.out, ← hr, List.getD_eq_getElem?_getD, List.getElem?_eq_getElem (by omega)]; rfl)
    rw [hrl] at c1 g2
    have a0 : (0 : Int) ≤ (a : Int) := by omega
    have HO4 := Lib.hid ho.drop
    obtain ⟨z, hz⟩ : ∃ z, z = bef hs c a := ⟨_, rfl⟩
    rw [← hz] at d1
    have HZ := Lib.hid hz
    clear hz
    clear ho hm hrow hcv hr hrl g5
    go_wp2
    go_ret2
    exact ⟨by rw [HB.out, HB_.out, ← HZ.out]; rfl, HO4.out⟩
end Go.Proofs.Ytddbjcpfgjcmnaa
