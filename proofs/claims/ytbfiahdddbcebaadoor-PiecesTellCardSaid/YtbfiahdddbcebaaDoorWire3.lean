/- Contracts of package wire, continued: Unpack. -/
import Derived.Test.YtbfiahdddbcebaaDoorWire2
import Derived.Laws.IdiomStrings
import Derived.Test.YtbfiahdddbcebaaDoorVec2
namespace Go.Proofs.YtbfiahdddbcebaaDoor
set_option linter.unusedVariables false
set_option linter.unusedSimpArgs false
open Go.RowKit
abbrev SdB (b : Nat) (who word : Int) (v : Value) : HProp := blk b (.cells #[.int .i64 who, .int .i64 word, v] 24 (0, 0))
section
variable {w0 w : World} {b : Nat} {who word : Int} {v : Value} {R : HProp}
theorem Own.sdB (h : Own w0 (SdB b who word v * R) w) : w.cell? ⟨b, 0, none⟩ = some (.int .i64 who) ∧ w.cell? ⟨b, 1, none⟩ = some (.int .i64 word) ∧ w.cell? ⟨b, 2, none⟩ = some v ∧ w.frozen? ⟨b, 0, none⟩ = false ∧ w.frozen? ⟨b, 1, none⟩ = false ∧ w.frozen? ⟨b, 2, none⟩ = false :=
  ⟨(h.cell 0).trans rfl, (h.cell 1).trans rfl, (h.cell 2).trans rfl, h.free 0 none, h.free 1 none, h.free 2 none⟩
theorem Own.sdB_put (h : Own w0 (SdB b who word v * R) w) (n1 n2 : Int) (v2 : Value) : Own w0 (SdB b n1 n2 v2 * R) (((w.setCell ⟨b, 0, none⟩ (.int .i64 n1)).setCell ⟨b, 1, none⟩ (.int .i64 n2)).setCell ⟨b, 2, none⟩ v2) :=
  ((h.setCell (i := 0) (v := .int .i64 n1)).setCell (i := 1) (v := .int .i64 n2)).setCell (i := 2) (v := v2)
end
theorem bytes_rd {w0 w : World} {b cap hi lo : Nat} {t : ByteArray} {R : HProp} (h : Own w0 (blk b (.cells (bytesRow t cap) 5 (lo, hi)) * R) w) (n : Nat) (hn : n ≤ t.data.toList.length) (hc : n ≤ cap) (hm : cap ≤ maxLen) : ByRd w (.slice (some ⟨b, 0, none⟩) n cap) (t.data.toList.take n) := by
  have hl : (t.data.toList.take n).length = n := by rw [List.length_take]; omega
  refine ⟨some ⟨b, 0, none⟩, cap, by rw [hl], by rw [hl]; exact hc, hm, by simp, fun i u hi => ⟨_, rfl, ?_⟩⟩
  rw [Addr.add_lit, Nat.zero_add, h.cell]
  rw [List.getElem?_map, List.getElem?_take] at hi
  split at hi
  · rename_i hlt
    have hi' : i < t.data.size := by rw [← Array.length_toList]; omega
    rw [bytesRow_at t cap i hi']
    rw [List.getElem?_eq_getElem (by omega)] at hi
    simp at hi
    rw [← hi]
    rfl
  · simp at hi
set_option maxRecDepth 100000 in
set_option maxHeartbeats 4000000 in
theorem wunpack_any {w0 w : World} {R : HProp} (t : ByteArray) (h : Own w0 R w) :
    Calls Tryd.prog 8 #[.string t] w fun e w' => ∃ v', e = .returned (.tuple #[.agg #[.int .i64 (unpackWho t.data.toList), .int .i64 (unpackWord t.data.toList), v'], errV (unpackErr t.data.toList)]) ∧ Own w0 (IntSl v' (unpackClock t.data.toList) * R) w' := by
  obtain ⟨B, hB⟩ : ∃ B, B = t.data.toList := ⟨_, rfl⟩
  have hsz : t.size = B.length := by rw [hB, Array.length_toList]; rfl
  rw [← hB]
  obtain ⟨b1, hb_b1⟩ : ∃ zz_, zz_ = (w).heap.size := ⟨_, rfl⟩
  obtain ⟨w1, hw_w1⟩ : ∃ zz_, zz_ = (w).alloc (.cells #[.int .i64 0, .int .i64 0, .slice none 0 0] 24 (0, 0)) := ⟨_, rfl⟩
  have h_HO1 := (h).alloc (.cells #[.int .i64 0, .int .i64 0, .slice none 0 0] 24 (0, 0))
  rw [← hb_b1, ← hw_w1] at h_HO1
  have HO1 := Lib.hid h_HO1
  clear h_HO1
  have hcv := run_bytes_of_string (P := Tryd.prog) w1 9 32 5 t (by kernel_rfl) (by kernel_rfl) (by kernel_rfl)
  obtain ⟨C, hC⟩ : ∃ C, C = grownCap w1 t.size 0 5 := ⟨_, rfl⟩
  have hCg : t.size ≤ C := by rw [hC]; have := grownCap_ge w1 t.size 0 5; omega
  rw [← hC] at hcv
  obtain ⟨n, hn⟩ : ∃ n, n = t.size := ⟨_, rfl⟩
  rw [← hn] at hcv hCg
  have hHO3 := HO1.out.drew.alloc (.cells (bytesRow t C) 5 ((bytesRow t C).size, (bytesRow t C).size + 1))
  obtain ⟨b3, hb3⟩ : ∃ b, b = w1.heap.size := ⟨_, rfl⟩
  rw [show w1.drew.heap.size = w1.heap.size from rfl, ← hb3] at hHO3
  rw [← hb3] at hcv
  obtain ⟨w3, hw3⟩ : ∃ x, x = w1.drew.alloc (.cells (bytesRow t C) 5 ((bytesRow t C).size, (bytesRow t C).size + 1)) := ⟨_, rfl⟩
  rw [← hw3] at hHO3 hcv
  have HO3 := Lib.hid hHO3
  have HZ := Lib.hid (show Own w0 (SdB b1 0 0 (.slice none 0 0) * R) w3 from HO3.out.drop)
  clear h hHO3
  have HB := Lib.hid hB; have HC := Lib.hid hC; have HN := Lib.hid hn; have HB3 := Lib.hid hb3; have HW3 := Lib.hid hw3
  clear hB hC hn hb3 hw3
  by_cases h18 : n = 18
  rotate_left
  · have hE : unpackErr B = 2 := unpack_short (by rw [← hsz, ← HN.out]; exact h18)
    have hne : ((n : Int) != 18) = true := by rw [bne_iff_ne]; omega
    have e1 : unpackWho B = 0 := by unfold unpackWho; rw [if_neg (by rw [hE]; decide)]
    have e2 : unpackWord B = 0 := by unfold unpackWord; rw [if_neg (by rw [hE]; decide)]
    have e3 : unpackClock B = [] := by unfold unpackClock; rw [if_neg (by rw [hE]; decide)]
    rw [e1, e2, e3, hE]
    obtain ⟨z0, z1, z2, f0, f1, f2⟩ := HZ.out.sdB
    have HE := Lib.hid hE; have H18 := Lib.hid h18; have HSZ := Lib.hid hsz; have E1 := Lib.hid e1; have E2 := Lib.hid e2; have E3 := Lib.hid e3
    clear hE h18 hsz e1 e2 e3
    go_enter Tryd.func8, Tryd.ntmps8
    go_upto_region 1 with fail
    rw [← hb_b1, ← hw_w1]
    clear hb_b1 hw_w1
    go_wp2_with fail
    go_quiet (fail)
    have HF := Lib.hid ((HZ.out.drewN nq).sdB_put 0 0 (.slice none 0 0))
    obtain ⟨r0, r1, r2, _⟩ := HF.out.sdB
    go_wp2_with fail
    exact bodyPost_ret (v := .tuple #[.agg #[.int .i64 0, .int .i64 0, .slice none 0 0], errV 2]) (by simp [results, Tryd.results8, go_sem, r0, r1, r2]; rfl) rfl ⟨_, rfl, HF.out.drop.sl_nil _ _⟩
  have hb18 : B.length = 18 := by rw [← hsz, ← HN.out]; exact h18
  subst h18
  have hne : ((18 : Int) != 18) = false := by decide
  have hCm : C ≤ maxLen := by rw [HC.out]; exact grownCap_le_maxLen w1 t.size 0 5 (by rw [← HN.out]; unfold maxLen; omega)
  have hC17 : (17 : Int) ≤ (C : Int) := by omega
  have hC18 : (18 : Int) ≤ (C : Int) := by omega
  have HR17 : Hid (ByRd w3 (.slice (some ⟨b3, 0, none⟩) 17 C) (B.take 17)) := Lib.hid (by rw [HB.out]; exact bytes_rd HO3.out 17 (by rw [← HB.out]; omega) (by omega) hCm)
  have HRB : Hid (ByRd w3 (.slice (some ⟨b3, 0, none⟩) 18 C) B) := Lib.hid (by
    have := bytes_rd HO3.out 18 (by rw [← HB.out]; omega) (by omega) hCm
    rw [← HB.out, List.take_of_length_le (by omega)] at this; exact this)
  have hcell : ∀ k (hk : k < 18), w3.cell? ⟨b3, k, none⟩ = some (.int .u8 (bn B k)) := fun k hk => by
    obtain ⟨a, ha, hc⟩ := HRB.out.at k (by omega)
    cases ha
    rw [Addr.add_lit, Nat.zero_add] at hc
    rw [hc]; unfold bn; rw [List.getD_eq_getElem?_getD, List.getElem?_eq_getElem (by omega)]; rfl
  have HCE := Lib.hid hcell
  have HROW : Hid (∀ k, k < 18 → (bytesRow t C)[k]? = some (.int .u8 (bn B k))) := Lib.hid (fun k hk => (HO3.out.cell k).symm.trans (hcell k hk))
  have c17 := hcell 17 (by omega)
  have hb17 := bn_byte B 17
  obtain ⟨y, hy⟩ : ∃ y : Nat, bn B 17 = y := ⟨(B.getD 17 0).toNat, rfl⟩
  obtain ⟨s, hs⟩ : ∃ s : Nat, s = (sumB (B.take 17)).toNat := ⟨_, rfl⟩
  have hs256 : s < 256 := by rw [hs]; exact UInt8.toNat_lt _
  have hceq : sumB (B.take 17) = B.getD 17 0 ↔ s = y := by
    rw [hs, ← UInt8.toNat_inj]
    unfold bn at hy
    omega
  rw [hy] at c17 hb17
  clear hcell
  have HY := Lib.hid hy; have HS := Lib.hid hs; have HCEQ := Lib.hid hceq; have HSZ := Lib.hid hsz; have HB18 := Lib.hid hb18; have HCM := Lib.hid hCm
  clear hy hs hceq hsz hb18 hCm
  by_cases hsy : s = y
  rotate_left
  · have hE : unpackErr B = 2 := by unfold unpackErr; rw [if_neg (by have := HB18.out; omega), if_pos (fun e => hsy (HCEQ.out.1 e))]
    have hne2 : ((s : Int) != (y : Int)) = true := by rw [bne_iff_ne]; omega
    have e1 : unpackWho B = 0 := by unfold unpackWho; rw [if_neg (by rw [hE]; decide)]
    have e2 : unpackWord B = 0 := by unfold unpackWord; rw [if_neg (by rw [hE]; decide)]
    have e3 : unpackClock B = [] := by unfold unpackClock; rw [if_neg (by rw [hE]; decide)]
    rw [e1, e2, e3, hE]
    obtain ⟨z0, z1, z2, f0, f1, f2⟩ := HZ.out.sdB
    have HE := Lib.hid hE; have HSY := Lib.hid hsy; have E1 := Lib.hid e1; have E2 := Lib.hid e2; have E3 := Lib.hid e3
    clear hE hsy e1 e2 e3
    go_enter Tryd.func8, Tryd.ntmps8
    go_upto_region 1 with fail
    rw [← hb_b1, ← hw_w1]
    clear hb_b1 hw_w1
    go_upto_region 2 with fail
    refine wp_region_planH 11 [] [(true, 0), (true, 1), (true, 2), (true, 3), (true, 4), (true, 5), (true, 7), (true, 8), (true, 9), (false, 6), (true, 10)] [11] (fun wS => wS = w3.drew) (by kernel_rfl) (by kernel_rfl) (rfl) ?_
    simp only [pickH, pick, List.getElem?_cons_succ, List.getElem?_cons_zero, Option.toList, Option.map_some, List.cons_append, List.nil_append]
    repeat (refine wpPure_step ?_ rfl ?_ ?_; rotate_left; (focus (intro _; first | with_reducible rfl | (go_simp; done) | (go_simp; with_reducible rfl) | rfl)); go_simp)
    refine wpPure_nil ?_
    repeat (first | (refine wpMix_read ?_ rfl ?_ ?_; rotate_left; (focus (intro _ hS; obtain rfl := hS; first | with_reducible rfl | (go_simp; done) | (go_simp; with_reducible rfl) | rfl)); go_simp) | (refine wpMix_readW ?_ ?_ ?_ ?_; rotate_left; (focus (first | rfl | (go_simp; done))); (focus (intro _ hS; obtain rfl := hS; first | with_reducible rfl | (go_simp; done) | (go_simp; with_reducible rfl) | rfl)); go_simp))
    refine wpMix_write (fun K hK => ?_)
    go_simp
    refine (wsum_any (w := w3.drew) _ _ (HR17.out.heap rfl)).mono ?_
    rintro e w' ⟨rfl, rfl⟩
    rw [← HS.out]
    refine hK _ _ ⟨rfl, ?_⟩
    clear hK K
    go_simp
    repeat (first | (refine wpMix_read ?_ rfl ?_ ?_; rotate_left; (focus (intro _ hS; obtain rfl := hS; first | with_reducible rfl | (go_simp; done) | (go_simp; with_reducible rfl) | rfl)); go_simp) | (refine wpMix_readW ?_ ?_ ?_ ?_; rotate_left; (focus (first | rfl | (go_simp; done))); (focus (intro _ hS; obtain rfl := hS; first | with_reducible rfl | (go_simp; done) | (go_simp; with_reducible rfl) | rfl)); go_simp))
    refine wpMix_nil ?_
    go_wp2_with fail
    refine NoPanic.normal ?_
    have HF := Lib.hid (HZ.out.sdB_put 0 0 (.slice none 0 0)).drew
    obtain ⟨r0, r1, r2, _⟩ := HF.out.sdB
    go_wp2_with fail
    exact bodyPost_ret (v := .tuple #[.agg #[.int .i64 0, .int .i64 0, .slice none 0 0], errV 2]) (by simp [results, Tryd.results8, go_sem, r0, r1, r2]; rfl) rfl ⟨_, rfl, HF.out.drop.sl_nil _ _⟩
  have hne2 : ((s : Int) != (y : Int)) = false := by rw [bne_eq_false_iff_eq]; omega
  obtain ⟨x0, hx0⟩ : ∃ x : Nat, bn B 0 = x := ⟨(B.getD 0 0).toNat, rfl⟩
  obtain ⟨x1, hx1⟩ : ∃ x : Nat, bn B 1 = x := ⟨(B.getD 1 0).toNat, rfl⟩
  have hx0b := bn_byte B 0
  have hx1b := bn_byte B 1
  have d0 : w3.drew.cell? ⟨b3, 0, none⟩ = some (.int .u8 x0) := by rw [← hx0]; exact HCE.out 0 (by omega)
  have d1 : w3.drew.cell? ⟨b3, 1, none⟩ = some (.int .u8 x1) := by rw [← hx1]; exact HCE.out 1 (by omega)
  rw [hx0] at hx0b
  rw [hx1] at hx1b
  have hwx0 : IntKind.i64.wrap (x0 : Int) = x0 := by rw [IntKind.wrap_i64]; omega
  have hwx1 : IntKind.i64.wrap (x1 : Int) = x1 := by rw [IntKind.wrap_i64]; omega
  have HSY := Lib.hid hsy; have HX0 := Lib.hid hx0; have HX1 := Lib.hid hx1
  clear hsy hx0 hx1
  go_enter Tryd.func8, Tryd.ntmps8
  go_upto_region 1 with fail
  rw [← hb_b1, ← hw_w1]
  clear hb_b1 hw_w1
  go_upto_region 2 with fail
  refine wp_region_planH 11 [] [(true, 0), (true, 1), (true, 2), (true, 3), (true, 4), (true, 5), (true, 7), (true, 8), (true, 9), (false, 6), (true, 10)] [11] (fun wS => wS = w3.drew) (by kernel_rfl) (by kernel_rfl) (rfl) ?_
  simp only [pickH, pick, List.getElem?_cons_succ, List.getElem?_cons_zero, Option.toList, Option.map_some, List.cons_append, List.nil_append]
  repeat (refine wpPure_step ?_ rfl ?_ ?_; rotate_left; (focus (intro _; first | with_reducible rfl | (go_simp; done) | (go_simp; with_reducible rfl) | rfl)); go_simp)
  refine wpPure_nil ?_
  repeat (first | (refine wpMix_read ?_ rfl ?_ ?_; rotate_left; (focus (intro _ hS; obtain rfl := hS; first | with_reducible rfl | (go_simp; done) | (go_simp; with_reducible rfl) | rfl)); go_simp) | (refine wpMix_readW ?_ ?_ ?_ ?_; rotate_left; (focus (first | rfl | (go_simp; done))); (focus (intro _ hS; obtain rfl := hS; first | with_reducible rfl | (go_simp; done) | (go_simp; with_reducible rfl) | rfl)); go_simp))
  refine wpMix_write (fun K hK => ?_)
  go_simp
  refine (wsum_any (w := w3.drew) _ _ (HR17.out.heap rfl)).mono ?_
  rintro e w' ⟨rfl, rfl⟩
  rw [← HS.out]
  refine hK _ _ ⟨rfl, ?_⟩
  clear hK K
  go_simp
  repeat (first | (refine wpMix_read ?_ rfl ?_ ?_; rotate_left; (focus (intro _ hS; obtain rfl := hS; first | with_reducible rfl | (go_simp; done) | (go_simp; with_reducible rfl) | rfl)); go_simp) | (refine wpMix_readW ?_ ?_ ?_ ?_; rotate_left; (focus (first | rfl | (go_simp; done))); (focus (intro _ hS; obtain rfl := hS; first | with_reducible rfl | (go_simp; done) | (go_simp; with_reducible rfl) | rfl)); go_simp))
  refine wpMix_nil ?_
  go_wp2_with fail
  refine NoPanic.normal ?_
  go_upto_region 4 with fail
  refine wp_region_planH 10 [] [(true, 0), (true, 1), (true, 2), (true, 3), (true, 4), (true, 5), (true, 6), (true, 7), (true, 8), (false, 9)] [10] (fun wS => wS.cell? ⟨b3, 0, none⟩ = some (.int .u8 x0) ∧ wS.cell? ⟨b3, 1, none⟩ = some (.int .u8 x1)) (by kernel_rfl) (by kernel_rfl) (⟨d0, d1⟩) ?_
  simp only [pickH, pick, List.getElem?_cons_succ, List.getElem?_cons_zero, Option.toList, Option.map_some, List.cons_append, List.nil_append]
  repeat (refine wpPure_step ?_ rfl ?_ ?_; rotate_left; (focus (intro _; first | with_reducible rfl | (go_simp; done) | (go_simp; with_reducible rfl) | rfl)); go_simp)
  refine wpPure_nil ?_
  repeat (refine wpMix_read ?_ rfl ?_ ?_; rotate_left; (focus (intro _ hS; obtain ⟨s1, s2⟩ := hS; first | with_reducible rfl | (go_simp; done) | (go_simp; with_reducible rfl) | rfl)); go_simp)
  refine wpMix_write (fun K hK => ?_)
  go_simp
  obtain ⟨b5, hb_b5⟩ : ∃ zz_, zz_ = (w3).heap.size := ⟨_, rfl⟩
  obtain ⟨w5, hw_w5⟩ : ∃ zz_, zz_ = (w3).alloc (.cells #[.int .i64 0, .int .i64 0, .slice none 0 0] 24 (0, 0)) := ⟨_, rfl⟩
  have h_HO5 := (HO3.out).alloc (.cells #[.int .i64 0, .int .i64 0, .slice none 0 0] 24 (0, 0))
  rw [← hb_b5, ← hw_w5] at h_HO5
  have HO5 := Lib.hid h_HO5
  clear h_HO5
  rw [← hb_b5, ← hw_w5]
  clear hb_b5 hw_w5
  have HZ5 : Hid (Own w0 (SdB b5 0 0 (.slice none 0 0) * (blk b3 (.cells (bytesRow t C) 5 ((bytesRow t C).size, (bytesRow t C).size + 1)) * (SdB b1 0 0 (.slice none 0 0) * R))) w5) := Lib.hid HO5.out
  obtain ⟨z0, z1, z2, f0, f1, f2⟩ := HZ5.out.sdB
  have d0' : w5.drew.drew.cell? ⟨b3, 0, none⟩ = some (.int .u8 x0) := by rw [← HX0.out]; exact (HZ5.out.drop.cell 0).trans (HROW.out 0 (by omega))
  have d1' : w5.drew.drew.cell? ⟨b3, 1, none⟩ = some (.int .u8 x1) := by rw [← HX1.out]; exact (HZ5.out.drop.cell 1).trans (HROW.out 1 (by omega))
  refine hK _ _ ⟨⟨d0', d1'⟩, ?_⟩
  clear hK K
  go_simp
  refine wpMix_nil ?_
  go_wp2_with fail
  refine NoPanic.normal ?_
  obtain ⟨X, hX⟩ : ∃ X, X = blk b3 (.cells (bytesRow t C) 5 ((bytesRow t C).size, (bytesRow t C).size + 1)) * (SdB b1 0 0 (.slice none 0 0) * R) := ⟨_, rfl⟩
  have HZ6 : Hid (Own w0 (SdB b5 x0 x1 (.slice none 0 0) * X) _) := Lib.hid (by rw [hX]; exact (HZ5.out.sdB_put x0 x1 (.slice none 0 0)).drew.drew)
  clear z0 z1 z2 f0 f1 f2 d0 d1
  have HX := Lib.hid hX
  clear hX
  go_upto_block 0 with fail
  go_wp2_with fail
  go_loopw [6] (fun iv wr => ∃ k i : Nat, k ≤ 5 ∧ i = 2 + 3 * k ∧ iv = .int .i64 i ∧ Hid (∃ cv, Own w0 (IntSl cv (clkN B k) * (SdB b5 x0 x1 cv * X)) wr)) (fun iv _ => 20 - (intOf iv).toNat)
  case atStart => exact ⟨0, 2, Nat.zero_le _, rfl, rfl, Lib.hid ⟨_, HZ6.out.sl_nil _ _⟩⟩
  case round =>
    obtain ⟨k, i, hk, hi, rfl, HO⟩ := hrel
    obtain ⟨cv, ho⟩ := HO.out
    obtain ⟨ad, cp, hs⟩ := ho.int_shape
    rw [clkN_len] at hs
    subst hs
    clear HO
    obtain ⟨z0, z1, z2, f0, f1, f2⟩ := ho.second.sdB
    by_cases hlt : k < 5
    · have i0 : (0 : Int) ≤ (i : Int) := by omega
      have i1 : (i : Int) < 18 := by omega
      have i6 : decide ((i : Int) < 17) = true := decide_eq_true (by omega)
      obtain ⟨j1, hj1⟩ : ∃ j, j = i + 1 := ⟨_, rfl⟩
      obtain ⟨j2, hj2⟩ : ∃ j, j = i + 2 := ⟨_, rfl⟩
      have i2 : (j1 : Int) < 18 := by omega
      have i3 : (j2 : Int) < 18 := by omega
      have i4 : (0 : Int) ≤ (j1 : Int) := by omega
      have i5 : (0 : Int) ≤ (j2 : Int) := by omega
      have hwj1 : IntKind.i64.wrap ((i : Int) + 1) = j1 := by rw [IntKind.wrap_i64]; omega
      have hwj2 : IntKind.i64.wrap ((i : Int) + 2) = j2 := by rw [IntKind.wrap_i64]; omega
      obtain ⟨y0, hy0⟩ : ∃ x : Nat, bn B i = x := ⟨(B.getD i 0).toNat, rfl⟩
      obtain ⟨y1, hy1⟩ : ∃ x : Nat, bn B (i + 1) = x := ⟨(B.getD (i + 1) 0).toNat, rfl⟩
      obtain ⟨y2, hy2⟩ : ∃ x : Nat, bn B (i + 2) = x := ⟨(B.getD (i + 2) 0).toNat, rfl⟩
      have hb0 := bn_byte B i
      have hb1 := bn_byte B (i + 1)
      have hb2 := bn_byte B (i + 2)
      rw [hy0] at hb0
      rw [hy1] at hb1
      rw [hy2] at hb2
      obtain ⟨v1, hv1⟩ : ∃ v : Int, v = (y0 : Int) * 256 := ⟨_, rfl⟩
      obtain ⟨v2, hv2⟩ : ∃ v : Int, v = v1 + y1 := ⟨_, rfl⟩
      obtain ⟨v3, hv3⟩ : ∃ v : Int, v = v2 * 256 := ⟨_, rfl⟩
      obtain ⟨v4, hv4⟩ : ∃ v : Int, v = v3 + y2 := ⟨_, rfl⟩
      have hnum : num3 B i = v4 := by unfold num3; rw [hy0, hy1, hy2, hv4, hv3, hv2, hv1]
      have hwy0 : IntKind.i64.wrap (y0 : Int) = y0 := by rw [IntKind.wrap_i64]; omega
      have hwy1 : IntKind.i64.wrap (y1 : Int) = y1 := by rw [IntKind.wrap_i64]; omega
      have hwy2 : IntKind.i64.wrap (y2 : Int) = y2 := by rw [IntKind.wrap_i64]; omega
      have hwv1 : IntKind.i64.wrap ((y0 : Int) * 256) = v1 := by rw [IntKind.wrap_i64]; omega
      have hwv2 : IntKind.i64.wrap (v1 + (y1 : Int)) = v2 := by rw [IntKind.wrap_i64]; omega
      have hwv3 : IntKind.i64.wrap (v2 * 256) = v3 := by rw [IntKind.wrap_i64]; omega
      have hwv4 : IntKind.i64.wrap (v3 + (y2 : Int)) = v4 := by rw [IntKind.wrap_i64]; omega
      have ho' := ho.perm (show _ = blk b3 (.cells (bytesRow t C) 5 ((bytesRow t C).size, (bytesRow t C).size + 1)) * (IntSl (.slice ad k cp) (clkN B k) * (SdB b5 x0 x1 (.slice ad k cp) * (SdB b1 0 0 (.slice none 0 0) * R))) by rw [HX.out]; ac_rfl)
      have e0 : wr.cell? ⟨b3, i, none⟩ = some (.int .u8 y0) := by rw [← hy0]; exact (ho'.cell i).trans (HROW.out i (by omega))
      have e1 : wr.cell? ⟨b3, j1, none⟩ = some (.int .u8 y1) := by rw [← hy1, ← hj1]; exact (ho'.cell j1).trans (HROW.out j1 (by omega))
      have e2 : wr.cell? ⟨b3, j2, none⟩ = some (.int .u8 y2) := by rw [← hy2, ← hj2]; exact (ho'.cell j2).trans (HROW.out j2 (by omega))
      have HO := Lib.hid ho; have HY0 := Lib.hid hy0; have HY1 := Lib.hid hy1; have HY2 := Lib.hid hy2; have HNUM := Lib.hid hnum; have HI := Lib.hid hi; have HO' := Lib.hid ho'; have HJ1 := Lib.hid hj1; have HJ2 := Lib.hid hj2; have HV1 := Lib.hid hv1; have HV2 := Lib.hid hv2; have HV3 := Lib.hid hv3; have HV4 := Lib.hid hv4
      clear ho hy0 hy1 hy2 hnum hi ho' hj1 hj2 hv1 hv2 hv3 hv4
      go_upto_region 8 with fail
      refine wp_region_planH 26 [] [(true, 0), (true, 1), (true, 2), (true, 3), (true, 4), (true, 5), (true, 6), (true, 7), (true, 8), (true, 9), (true, 10), (true, 11), (true, 12), (true, 13), (true, 14), (true, 15), (true, 16), (true, 17), (true, 18), (true, 19), (true, 20), (true, 21), (true, 22), (false, 23), (false, 24), (true, 25)] [26] (fun wS => wS.cell? ⟨b3, i, none⟩ = some (.int .u8 y0) ∧ wS.cell? ⟨b3, j1, none⟩ = some (.int .u8 y1) ∧ wS.cell? ⟨b3, j2, none⟩ = some (.int .u8 y2) ∧ wS.cell? ⟨b5, 2, none⟩ = some (.slice ad k cp)) (by kernel_rfl) (by kernel_rfl) (⟨e0, e1, e2, z2⟩) ?_
      simp only [pickH, pick, List.getElem?_cons_succ, List.getElem?_cons_zero, Option.toList, Option.map_some, List.cons_append, List.nil_append]
      repeat (refine wpPure_step ?_ rfl ?_ ?_; rotate_left; (focus (intro _; first | with_reducible rfl | (go_simp; done) | (go_simp; with_reducible rfl) | rfl)); go_simp)
      refine wpPure_nil ?_
      repeat (refine wpMix_read ?_ rfl ?_ ?_; rotate_left; (focus (intro _ hS; obtain ⟨s0, s1, s2, s3⟩ := hS; first | with_reducible rfl | (go_simp; done) | (go_simp; with_reducible rfl) | rfl)); go_simp)
      refine wpMix_write (fun K hK => ?_)
      go_simp
      have HC3 : Hid (∀ w', Own w0 X w' → ∀ k, k < 18 → w'.cell? ⟨b3, k, none⟩ = some (.int .u8 (bn B k))) := Lib.hid (fun w' h k hk => by rw [HX.out] at h; exact (h.cell k).trans (HROW.out k hk))
      have hnews : (clkN B k).length = k := clkN_len B k
      have HNEWS := Lib.hid hnews
      clear hnews
      clear e0 e1 e2 z0 z1 z2 f0 f1 f2 HO' HZ6 HZ5
      obtain ⟨b6, hb_b6⟩ : ∃ zz_, zz_ = (wr).heap.size := ⟨_, rfl⟩
      obtain ⟨w6, hw_w6⟩ : ∃ zz_, zz_ = (wr).alloc (.cells #[.int .i64 v4] 3 (0, 0)) := ⟨_, rfl⟩
      have h_HO6 := (HO.out).alloc (.cells #[.int .i64 v4] 3 (0, 0))
      rw [← hb_b6, ← hw_w6] at h_HO6
      have HO6 := Lib.hid h_HO6
      clear h_HO6
      rw [← hb_b6, ← hw_w6]
      clear hb_b6 hw_w6
      have HO6' : Hid (Own w0 (Sl 3 1 (.slice ad k cp) k ((clkN B k).map (Value.int .i64)) * (IntSl (.slice (some ⟨b6, 0, none⟩) 1 1) [v4] * (SdB b5 x0 x1 (.slice ad k cp) * X))) w6.drew) := Lib.hid (by
        have h1 := (Own.litI [v4] 1 rfl (by omega) HO6.out).drew.second
        exact h1.perm (show IntSl _ _ * _ = _ by unfold IntSl; rw [HNEWS.out]))
      have e0 : w6.drew.cell? ⟨b3, i, none⟩ = some (.int .u8 y0) := by rw [← HY0.out]; exact HC3.out _ HO6'.out.drop.drop.drop i (by omega)
      have e1 : w6.drew.cell? ⟨b3, j1, none⟩ = some (.int .u8 y1) := by rw [← HY1.out, ← HJ1.out]; exact HC3.out _ HO6'.out.drop.drop.drop j1 (by omega)
      have e2 : w6.drew.cell? ⟨b3, j2, none⟩ = some (.int .u8 y2) := by rw [← HY2.out, ← HJ2.out]; exact HC3.out _ HO6'.out.drop.drop.drop j2 (by omega)
      have e3 : w6.drew.cell? ⟨b5, 2, none⟩ = some (.slice ad k cp) := HO6'.out.drop.drop.sdB.2.2.1
      refine hK _ _ ⟨⟨e0, e1, e2, e3⟩, ?_⟩
      clear hK K
      go_simp
      clear e0 e1 e2 e3
      repeat (refine wpMix_read ?_ rfl ?_ ?_; rotate_left; (focus (intro _ hS; obtain ⟨s0, s1, s2, s3⟩ := hS; first | with_reducible rfl | (go_simp; done) | (go_simp; with_reducible rfl) | rfl)); go_simp)
      refine wpMix_write (fun K hK => ?_)
      refine step_app rfl _ _ 22 rfl 3 1 8 _ info_int Tryd.underlying22 rfl (by decide) (by rfl) HO6'.out (by rfl) (by rfl) (Own.rd HO6'.out.drop) (int_one _) (by unfold maxLen; rw [List.length_singleton]; omega) (by rw [List.length_singleton]; omega) ?_
      intro v7 w7 ho7
      obtain ⟨a7, c7, hv7, _⟩ := Own.rd ho7
      subst hv7
      have HO7 : Hid (Own w0 (SdB b5 x0 x1 (.slice ad k cp) * (IntSl (.slice a7 (k + 1) c7) (clkN B (k + 1)) * X)) w7) := Lib.hid (by
        have h7 : Own w0 (IntSl (.slice a7 (k + 1) c7) (clkN B (k + 1)) * _) w7 := ho7.perm (show _ = IntSl (.slice a7 (k + 1) c7) (clkN B (k + 1)) * _ by unfold IntSl; rw [clkN_succ, ← HI.out, HNUM.out, List.length_append, List.map_append, HNEWS.out]; rfl)
        exact h7.second.drop.second)
      clear ho7
      have e0 : w7.cell? ⟨b3, i, none⟩ = some (.int .u8 y0) := by rw [← HY0.out]; exact HC3.out _ HO7.out.drop.drop i (by omega)
      have e1 : w7.cell? ⟨b3, j1, none⟩ = some (.int .u8 y1) := by rw [← HY1.out, ← HJ1.out]; exact HC3.out _ HO7.out.drop.drop j1 (by omega)
      have e2 : w7.cell? ⟨b3, j2, none⟩ = some (.int .u8 y2) := by rw [← HY2.out, ← HJ2.out]; exact HC3.out _ HO7.out.drop.drop j2 (by omega)
      obtain ⟨_, _, e3, _, _, f2⟩ := HO7.out.sdB
      refine hK _ _ ⟨⟨e0, e1, e2, e3⟩, ?_⟩
      clear hK K
      go_simp
      repeat (refine wpMix_read ?_ rfl ?_ ?_; rotate_left; (focus (intro _ hS; obtain ⟨s0, s1, s2, s3⟩ := hS; first | with_reducible rfl | (go_simp; done) | (go_simp; with_reducible rfl) | rfl)); go_simp)
      refine wpMix_nil ?_
      have HO8 := Lib.hid (HO7.out.setCell (i := 2) (v := .slice a7 (k + 1) c7))
      go_wp2_with fail
      refine NoPanic.normal ?_
      go_wp2_with fail
      go_roundw
      case rel => exact ⟨k + 1, i + 3, by omega, by rw [HI.out]; omega, by go_num, Lib.hid ⟨.slice a7 (k + 1) c7, HO8.out.second⟩⟩
      case measure => simp [intOf]; omega
    · have hk5 : k = 5 := by omega
      subst hk5
      have hi17 : i = 17 := hi
      subst hi17
      clear hi z0 z1 z2 f0 f1 f2
      have hcI : Reads w0 (IntSl (.slice ad 5 cp) (clkN B 5) * (SdB b5 x0 x1 (.slice ad 5 cp) * X)) (.slice ad 5 cp) (clkN B 5) := IntSl_reads (clkN_I64 B 5)
      have HO := Lib.hid ho; have HCI := Lib.hid hcI
      clear ho hcI
      obtain ⟨z0, z1, z2, f0, f1, f2⟩ := HO.out.second.sdB
      go_wp2_with fail
      refine (wcheck_any x0 x1 (.slice ad 5 cp) (clkN B 5) HO.out HCI.out).mono ?_
      rintro e w9 ⟨rfl, ho9⟩
      have HO9 : Hid (Own w0 (SdB b1 0 0 (.slice none 0 0) * (SdB b5 x0 x1 (.slice ad 5 cp) * (IntSl (.slice ad 5 cp) (clkN B 5) * R))) w9) := Lib.hid (by
        have h1 := ho9.perm (show _ = blk b3 (.cells (bytesRow t C) 5 ((bytesRow t C).size, (bytesRow t C).size + 1)) * (SdB b1 0 0 (.slice none 0 0) * (SdB b5 x0 x1 (.slice ad 5 cp) * (IntSl (.slice ad 5 cp) (clkN B 5) * R))) by rw [HX.out]; ac_rfl)
        exact h1.drop)
      clear ho9 z0 z1 z2 f0 f1 f2
      obtain ⟨z0, z1, z2, f0, f1, f2⟩ := HO9.out.sdB
      obtain ⟨y0, y1, y2, _⟩ := HO9.out.drop.sdB
      have hsum : sumB (B.take 17) = B.getD 17 0 := HCEQ.out.2 HSY.out
      have hEE : unpackErr B = if saidErr x0 x1 (clkN B 5) ≠ 0 then 2 else 0 := by
        unfold unpackErr
        rw [if_neg (by have := HB18.out; omega), if_neg (by simpa using hsum), HX0.out, HX1.out]
      have HSUM := Lib.hid hsum
      clear hsum
      by_cases he : saidErr x0 x1 (clkN B 5) = 0
      rotate_left
      · obtain ⟨mm, hmm⟩ := errV_some he
        rw [if_pos he] at hEE
        have e1 : unpackWho B = 0 := by unfold unpackWho; rw [if_neg (by rw [hEE]; decide)]
        have e2 : unpackWord B = 0 := by unfold unpackWord; rw [if_neg (by rw [hEE]; decide)]
        have e3 : unpackClock B = [] := by unfold unpackClock; rw [if_neg (by rw [hEE]; decide)]
        rw [hmm]
        have HF := Lib.hid (HO9.out.sdB_put 0 0 (.slice none 0 0))
        obtain ⟨r0, r1, r2, _⟩ := HF.out.sdB
        have HE := Lib.hid he; have HMM := Lib.hid hmm; have HEE := Lib.hid hEE; have E1 := Lib.hid e1; have E2 := Lib.hid e2; have E3 := Lib.hid e3
        clear he hmm hEE e1 e2 e3
        go_wp2_with fail
        exact bodyPost_ret (v := .tuple #[.agg #[.int .i64 0, .int .i64 0, .slice none 0 0], errV 2]) (by simp [results, Tryd.results8, go_sem, r0, r1, r2]; rfl) rfl ⟨_, by rw [E1.out, E2.out, HEE.out], by rw [E3.out]; exact HF.out.drop.drop.drop.sl_nil _ _⟩
      · rw [if_neg (by simpa using he)] at hEE
        have e1 : unpackWho B = x0 := by unfold unpackWho; rw [if_pos hEE, HX0.out]
        have e2 : unpackWord B = x1 := by unfold unpackWord; rw [if_pos hEE, HX1.out]
        have e3 : unpackClock B = clkN B 5 := by unfold unpackClock; rw [if_pos hEE]
        rw [he, errV0]
        have HF := Lib.hid (HO9.out.sdB_put x0 x1 (.slice ad 5 cp))
        obtain ⟨r0, r1, r2, _⟩ := HF.out.sdB
        have HE := Lib.hid he; have HEE := Lib.hid hEE; have E1 := Lib.hid e1; have E2 := Lib.hid e2; have E3 := Lib.hid e3
        clear he hEE e1 e2 e3
        go_wp2_with fail
        exact bodyPost_ret (v := .tuple #[.agg #[.int .i64 x0, .int .i64 x1, .slice ad 5 cp], .nilIface]) (by simp [results, Tryd.results8, go_sem, r0, r1, r2]) rfl ⟨_, by rw [E1.out, E2.out, HEE.out]; rfl, by rw [E3.out]; exact HF.out.drop.drop⟩
end Go.Proofs.YtbfiahdddbcebaaDoor
