/- Contracts of package clock, continued: the vectors of a right history. -/
import Derived.Test.YtdfjbnfdknpahaaGreatDoorMRunCausal15
import Derived.Test.YtdfjbnfdknpahaaGreatDoorMRunCausal4
import Derived.Test.YtdfjbnfdknpahaaGreatDoorMRunCausal5
import Derived.Test.YtdfjbnfdknpahaaGreatDoorMRunCausal13
namespace Go.Proofs.YtdfjbnfdknpahaaGreatDoor
set_option linter.unusedVariables false
set_option linter.unusedSimpArgs false
open Go.RowKit
theorem vecIn_I64 {k : Nat} {v : List Int} (h : vecIn k v) (hk : k ≤ 1000) : ∀ x ∈ v, I64 x := fun x hx => by have := h.2 x hx; unfold I64; omega
set_option maxRecDepth 100000 in
set_option maxHeartbeats 4000000 in
theorem of_any {w0 w : World} {R : HProp} (v : Value) (hs : List Ev) (h : Own w0 R w) (hv : ReadsE w0 R v hs) (hr : RightH hs) :
    Calls Tryz.prog 111 #[v] w fun e w' => ∃ v' rs, e = .returned v' ∧ rs.map (·.2) = vecsR hs ∧ Own w0 (LSl v' rs * R) w' := by
  obtain ⟨had, hcap, rfl, hc1, hc2⟩ := (hv _ h).shape
  obtain ⟨n, hn⟩ : ∃ n, n = hs.length := ⟨_, rfl⟩
  have hlen := hr.1
  rw [← hn] at hc1 hlen hv ⊢
  obtain ⟨lb, hb_lb⟩ : ∃ zz_, zz_ = (w).heap.size := ⟨_, rfl⟩
  obtain ⟨w1, hw_w1⟩ : ∃ zz_, zz_ = (w).alloc (.cells #[.slice none 0 0, .slice none 0 0, .slice none 0 0, .slice none 0 0, .slice none 0 0] 217 (0, 0)) := ⟨_, rfl⟩
  have h_HO1 := (h).alloc (.cells #[.slice none 0 0, .slice none 0 0, .slice none 0 0, .slice none 0 0, .slice none 0 0] 217 (0, 0))
  rw [← hb_lb, ← hw_w1] at h_HO1
  have HO1 := Lib.hid h_HO1
  clear h_HO1
  have HO2 : Hid (Own w0 (LSl (.slice none 0 0) [] * (L5 lb (List.replicate 5 (.slice none 0 0, [])) * R)) w1) := Lib.hid (by rw [LSl_nil, emp_star, L5_nil]; exact HO1.out)
  clear HO1
  have H := Lib.hid h; have HV := Lib.hid hv; have HN := Lib.hid hn; have HR := Lib.hid hr
  clear h hv hn hr
  go_enter Tryz.func111, Tryz.ntmps111
  go_upto_region 3 with fail
  rw [← hb_lb, ← hw_w1]
  clear hb_lb hw_w1
  go_wp2_with fail
  go_loopw [10, 3] (fun iv ov wr => ∃ (k : Nat) (ro rl : List (Value × List Int)), k ≤ n ∧ iv = .int .i64 k ∧ Hid (ro.map (·.2) = (vecState hs k).1) ∧ Hid (rl.map (·.2) = (vecState hs k).2) ∧ Hid (∀ (q : Nat) v, rl[q]? = some (v, []) → v = .slice none 0 0) ∧ Hid (Own w0 (LSl ov ro * (L5 lb rl * R)) wr)) (fun iv _ _ => n - (intOf iv).toNat)
  case atStart => exact ⟨0, [], List.replicate 5 (.slice none 0 0, []), Nat.zero_le _, rfl, Lib.hid rfl, Lib.hid rfl, Lib.hid (by intro q v hq; rw [List.getElem?_replicate] at hq; split at hq <;> simp at hq; exact hq.symm), HO2⟩
  case round =>
    clear HO2
    obtain ⟨k, ro, rl, hk, rfl, HRO, HRL, HZ, HO⟩ := hrel
    by_cases hlt : k < n
    rotate_left
    · have hkn : k = n := by omega
      have hro := HRO.out
      rw [hkn, HN.out] at hro
      have HRO := Lib.hid hro
      clear hro
      go_wp2
      go_ret
      exact ⟨_, ro, rfl, HRO.out, (HO.out.perm (star_left_comm _ _ _)).drop⟩
    have hkl : k < hs.length := by rw [← HN.out]; exact hlt
    obtain ⟨aa, pb, po, ps, rfl, hea, hcs, _⟩ := HV.out.more.more.at HO.out k hkl
    have hwho := HR.out.who hkl
    have hsd := HR.out.said hkl
    obtain ⟨hl1, hl2⟩ := vecState_len hs k
    obtain ⟨hi1, hi2⟩ := vecState_in HR.out k (by omega)
    have hv0 := vec0_in hi2 (evAt hs k).1.toNat
    have hv1 := vec1_in HR.out hkl hl1 hi1 hi2
    have hstate : vecState hs (k + 1) = ((vecState hs k).1 ++ [vecNext hs k (vecState hs k)], (vecState hs k).2.set (evAt hs k).1.toNat (vecNext hs k (vecState hs k))) := rfl
    have hnx : vecNext hs k (vecState hs k) = (vec1 hs k (vecState hs k)).set (evAt hs k).1.toNat ((vec1 hs k (vecState hs k)).getD (evAt hs k).1.toNat 0 + 1) := rfl
    have h1d : vec1 hs k (vecState hs k) = if (evAt hs k).2.1 = 3 then zipMax (vec0 (vecState hs k) (evAt hs k).1.toNat) ((vecState hs k).1.getD (saidAt (hs.take k) (evAt hs k).2.2).toNat []) else vec0 (vecState hs k) (evAt hs k).1.toNat := rfl
    have h0d : vec0 (vecState hs k) (evAt hs k).1.toNat = if (vecState hs k).2.getD (evAt hs k).1.toNat [] = [] then zero5 else (vecState hs k).2.getD (evAt hs k).1.toNat [] := rfl
    have hsaid := fun (w1 : World) (R' : HProp) (word : Int) (ho : Own w0 (R' * R) w1) => said_any (w0 := w0) (w := w1) (R := R' * R) word (.slice (some aa) k hcap) (hs.take k) ho (HV.out.front (by omega)).more
    obtain ⟨V1, hV1⟩ : ∃ V1, V1 = vec1 hs k (vecState hs k) := ⟨_, rfl⟩
    obtain ⟨V0, hV0⟩ : ∃ V0, V0 = vec0 (vecState hs k) (evAt hs k).1.toNat := ⟨_, rfl⟩
    rw [← hV1] at hnx h1d hv1
    rw [← hV0] at h1d h0d hv0
    obtain ⟨x, hx⟩ : ∃ x, x = evAt hs k := ⟨_, rfl⟩
    rw [← hx] at hcs hwho hsd hstate hnx h1d h0d
    obtain ⟨c0, c1, c2⟩ := hcs _ HO.out
    obtain ⟨x1, x2, x3⟩ := x
    simp only at c0 c1 c2 hwho hsd hstate hnx h1d h0d
    obtain ⟨q, rfl⟩ : ∃ q : Nat, x1 = (q : Int) := ⟨x1.toNat, by omega⟩
    simp only [Int.toNat_natCast] at hstate hnx h1d h0d
    have hq5 : q < 5 := by omega
    have hrll : rl.length = 5 := by rw [← List.length_map (f := (·.2)), HRL.out, hl2]
    have hrol : ro.length = k := by rw [← List.length_map (f := (·.2)), HRO.out, hl1]
    obtain ⟨L, hL⟩ : ∃ L, L = (vecState hs k).2.getD q [] := ⟨_, rfl⟩
    have hLg : (vecState hs k).2[q]? = some L := by rw [hL, List.getD_eq_getElem?_getD, List.getElem?_eq_getElem (by omega)]; rfl
    rw [← hL] at h0d
    obtain ⟨lv, hlv⟩ := map_at HRL.out hLg
    have hLin : L = [] ∨ vecIn k L := by rw [hL]; exact vec_getD hi2 q
    obtain ⟨eb, hb_eb⟩ : ∃ zz_, zz_ = (wr).heap.size := ⟨_, rfl⟩
    obtain ⟨w2, hw_w2⟩ : ∃ zz_, zz_ = (wr).alloc (.cells #[.int .i64 (q : Int), .int .i64 x2, .int .i64 x3] 112 (0, 0)) := ⟨_, rfl⟩
    have h_HO1 := (HO.out).alloc (.cells #[.int .i64 (q : Int), .int .i64 x2, .int .i64 x3] 112 (0, 0))
    rw [← hb_eb, ← hw_w2] at h_HO1
    have HO1 := Lib.hid h_HO1
    clear h_HO1
    have HE1 : Hid (Own w0 (EvO eb ((q : Int), x2, x3) * (LSl u3 ro * (L5 lb rl * R))) w2) := HO1
    have HE2 : Hid (Own w0 (L5 lb rl * (EvO eb ((q : Int), x2, x3) * (LSl u3 ro * R))) w2) := Lib.hid (HO1.out.perm (by unfold EvO; ac_rfl))
    clear HO1
    obtain ⟨d0, d1, d2⟩ := HE1.out.ev
    simp only at d0 d1 d2
    have e1 := HE2.out.l5_cell hlv
    have k0 : (0 : Int) ≤ (k : Int) := by omega
    have kn : (k : Int) ≤ (n : Int) := by omega
    have kc : (k : Int) ≤ (hcap : Int) := by omega
    have hc0 : hcap ≠ 0 := by omega
    have q0 : (0 : Int) ≤ (q : Int) := by omega
    have q5 : (q : Int) < 5 := by omega
    have HLV := Lib.hid hlv
    have HI1 := Lib.hid hi1
    have HHV0 := Lib.hid hv0; have HHV1 := Lib.hid hv1
    have HVV0 := Lib.hid hV0; have HVV1 := Lib.hid hV1
    have HCS := Lib.hid hcs; have HX := Lib.hid hx; have HWHO := Lib.hid hwho; have HSTATE := Lib.hid hstate; have HNX := Lib.hid hnx; have H1D := Lib.hid h1d; have H0D := Lib.hid h0d; have HSAID := Lib.hid hsaid; have HSD := Lib.hid hsd; have HRLL := Lib.hid hrll; have HROL := Lib.hid hrol; have HL := Lib.hid hL; have HLG := Lib.hid hLg; have HLIN := Lib.hid hLin; have HL1 := Lib.hid hl1; have HL2 := Lib.hid hl2
    clear hcs hx hwho hstate hnx h1d h0d hsaid hsd hrll hrol hL hLg hLin hl1 hl2
    clear hlv hi1 hi2 hv0 hv1 hV0 hV1
    go_upto_region 6 with fail
    rw [← hb_eb, ← hw_w2]
    clear hb_eb hw_w2
    clear c0 c1 c2
    go_cut [7] (fun v wx => (L = [] ∧ v = .slice none 0 0 ∧ Own w0 (EvO eb ((q : Int), x2, x3) * (LSl u3 ro * (L5 lb rl * R))) wx) ∨ (L ≠ [] ∧ Own w0 (IntSl v L * (EvO eb ((q : Int), x2, x3) * (LSl u3 ro * (L5 lb rl * R)))) wx))
    case first =>
      by_cases hLe : L = []
      · have hlv : lv = .slice none 0 0 := HZ.out q lv (by rw [HLV.out, hLe])
        subst hlv
        have HLE := Lib.hid hLe
        clear hLe
        go_wp2_with fail
        refine (cloneNil_any _).mono ?_
        rintro e w' ⟨rfl, rfl⟩
        go_wp2_with fail
        go_meet
        exact .inl ⟨HLE.out, rfl, HE1.out⟩
      · have hrow := HE2.out.l5_row HLV.out (by rcases HLIN.out with h9 | h9; exact absurd h9 hLe; exact vecIn_I64 h9 (by omega))
        have hll : L.length = 5 := by rcases HLIN.out with h9 | h9; exact absurd h9 hLe; exact h9.1
        have HLE := Lib.hid hLe; have HROW := Lib.hid hrow; have HLL := Lib.hid hll
        clear hLe hrow hll
        go_wp2_with fail
        refine (cloneInts_any HE1.out _ L HROW.out (by rw [HLL.out]; omega)).mono ?_
        rintro e w' ⟨v', rfl, ho⟩
        have HO3 := Lib.hid ho
        clear ho
        go_wp2_with fail
        go_meet
        exact .inr ⟨HLE.out, HO3.out⟩
    case rest =>
    have HCUT := Lib.hid hcut
    clear hcut HE1 HE2 d0 d1 d2 e1
    go_upto_region 7 with fail
    go_cut [21] (fun t wx => t = .bool (decide (L = [])) ∧ wx = wc)
    case first =>
      rcases HCUT.out with ⟨hLe, rfl, _⟩ | ⟨hLe, ho⟩
      · have hnil := fun (w : World) => Lib.run_eql_slice_nil (P := Tryz.prog) w 57 3 none 0 0 0 0 Tryz.underlying57
        have hd := decide_eq_true hLe
        have HLE := Lib.hid hLe; have HD := Lib.hid hd
        clear hLe hd
        clear HCUT
        go_wp2_with fail
        go_meet
        exact ⟨by rw [HD.out], rfl⟩
      · have hp : 0 < L.length := List.length_pos_iff.2 hLe
        obtain ⟨b, off, cap, rfl, _⟩ := ho.ints_at hp
        have hnil := fun (w : World) => Lib.run_eql_slice_nil (P := Tryz.prog) w 57 3 (some ⟨b, off, none⟩) L.length cap 0 0 Tryz.underlying57
        have hd := decide_eq_false hLe
        have HLE := Lib.hid hLe; have HD := Lib.hid hd
        clear hLe hd
        clear HCUT ho hp
        go_wp2_with fail
        go_meet
        exact ⟨by rw [HD.out], rfl⟩
    case rest =>
    obtain ⟨rfl, rfl⟩ := hcut
    go_upto_if 21 with fail
    go_cut [7] (fun v wx => Own w0 (IntSl v V0 * (EvO eb ((q : Int), x2, x3) * (LSl u3 ro * (L5 lb rl * R)))) wx)
    case first =>
      rcases HCUT.out with ⟨hLe, rfl, ho⟩ | ⟨hLe, ho⟩
      · have hvv : V0 = zero5 := by rw [H0D.out, if_pos hLe]
        have ht := decide_eq_true hLe
        rw [ht]
        have HO3 := Lib.hid ho
        have HLE := Lib.hid hLe; have HT := Lib.hid ht; have HVV := Lib.hid hvv
        clear hLe ht hvv
        clear HCUT ho
        go_wp2_with (at_make; refine wpList_mk rfl _ _ 57 rfl 3 8 (.int .i64 0) Tryz.underlying57 info_int rfl 5 rfl rfl (by omega) (by decide) HO3.out ?_; intro mb w9 ho; have HO9 := Lib.hid ho.sl_of_at; clear ho)
        go_meet
        rw [HVV.out]
        exact HO9.out
      · have hvv : V0 = L := by rw [H0D.out, if_neg hLe]
        have ht := decide_eq_false hLe
        rw [ht]
        have HO3 := Lib.hid ho
        have HLE := Lib.hid hLe; have HT := Lib.hid ht; have HVV := Lib.hid hvv
        clear hLe ht hvv
        clear HCUT ho
        go_wp2_with fail
        go_meet
        rw [HVV.out]
        exact HO3.out
    case rest =>
    clear HCUT
    have HI3 := Lib.hid hcut
    clear hcut
    have HE3 : Hid (Own w0 (EvO eb ((q : Int), x2, x3) * (IntSl u7 V0 * (LSl u3 ro * (L5 lb rl * R)))) wc) := Lib.hid (HI3.out.perm (by ac_rfl))
    obtain ⟨d0, d1, d2⟩ := HE3.out.ev
    simp only at d0 d1 d2
    have hlv0 := HHV0.out.1
    have hI0 := vecIn_I64 HHV0.out (by omega)
    have HLV0 := Lib.hid hlv0; have HI0 := Lib.hid hI0
    clear hlv0 hI0
    go_upto_if 25 with fail
    go_cut [7] (fun v wx => Own w0 (IntSl v V1 * (EvO eb ((q : Int), x2, x3) * (LSl u3 ro * (L5 lb rl * R)))) wx)
    case first =>
      by_cases h3 : x2 = 3
      rotate_left
      · have t1 : (x2 == 3) = false := by simpa using h3
        have hvv : V1 = V0 := by rw [H1D.out, if_neg h3]
        have H3 := Lib.hid h3; have HVV := Lib.hid hvv
        clear h3 hvv
        go_wp2_with fail
        go_meet
        rw [HVV.out]
        exact HI3.out
      · subst h3
        obtain ⟨i, hik, hsi, _⟩ := HSD.out rfl
        obtain ⟨B, hB⟩ : ∃ B, B = (vecState hs k).1.getD i [] := ⟨_, rfl⟩
        have hvv : V1 = zipMax V0 B := by rw [H1D.out, if_pos rfl, hsi, Int.toNat_natCast, hB]
        have hBg : (vecState hs k).1[i]? = some B := by rw [hB, List.getD_eq_getElem?_getD, List.getElem?_eq_getElem (by rw [HL1.out]; exact hik)]; rfl
        have hBin : vecIn k B := HI1.out B (List.mem_of_getElem? hBg)
        have hBI := vecIn_I64 hBin (by omega)
        have hBl := hBin.1
        obtain ⟨rv, hrv⟩ := map_at HRO.out hBg
        obtain ⟨ob, off, ocap, ho1, hoc1, hoc2, _, _⟩ := (HE3.out.drop.drop).ls_row hrv hBI
        rw [HROL.out] at ho1 hoc1
        have i0 : (0 : Int) ≤ (i : Int) := by omega
        have ik : (i : Int) < (k : Int) := by omega
        have HRR : Hid (∀ (w' : World) (R' : HProp), Own w0 (LSl (.slice (some ⟨ob, off, none⟩) k ocap) ro * R') w' → w'.cell? ⟨ob, off + i, none⟩ = some rv ∧ Ints w' rv B) := Lib.hid (fun w' R' ho => by
          obtain ⟨ob', off', ocap', e1, _, _, e2, e3⟩ := ho.ls_row hrv hBI
          injection e1 with e1 _ _
          injection e1 with e1
          injection e1 with e1 e4 _
          subst e1; subst e4
          exact ⟨e2, e3⟩)
        have HSI := Lib.hid hsi; have HB := Lib.hid hB; have HVV := Lib.hid hvv; have HBG := Lib.hid hBg; have HBIN := Lib.hid hBin; have HBI := Lib.hid hBI; have HBL := Lib.hid hBl; have HRV := Lib.hid hrv
        clear hsi hB hvv hBg hBin hBI hBl hrv
        go_wp2_with fail
        refine wp_region_planX 7 [0, 1] [7, 8, 9, 10, 11] (by kernel_rfl) (by kernel_rfl) ?_
        simp only [List.range_succ, List.range_zero, List.nil_append, List.filter_cons, List.filter_nil, List.filter_append, List.contains_cons, List.contains_nil, Nat.reduceBEq, Bool.or_false, Bool.or_true, Bool.not_false, Bool.not_true, if_true, if_false, Bool.false_eq_true, ↓reduceIte, pick, List.getElem?_cons_succ, List.getElem?_cons_zero, Option.toList, List.cons_append, List.nil_append]
        repeat (refine wpPure_step ?_ rfl ?_ ?_; rotate_left; (focus (intro _; first | with_reducible rfl | (go_simp; done) | (go_simp; with_reducible rfl) | rfl)); go_simp)
        refine wpPure_nil ?_
        repeat still_step
        refine wpStill_nil ?_
        go_wp2_with fail
        refine (HSAID.out _ (EvO eb ((q : Int), 3, x3) * (IntSl u7 V0 * (LSl u3 ro * L5 lb rl))) x3 (HE3.out.drew.perm (by ac_rfl))).mono ?_
        rintro e w3 ⟨rfl, ho⟩
        rw [HSI.out]
        subst ho1
        have HE4 : Hid (Own w0 (LSl (.slice (some ⟨ob, off, none⟩) k ocap) ro * (IntSl u7 V0 * (EvO eb ((q : Int), 3, x3) * (L5 lb rl * R)))) w3) := Lib.hid (ho.perm (by ac_rfl))
        clear ho
        have HV0R : Hid (Ints w3 u7 V0) := Lib.hid ((IntSl_reads HI0.out) _ (HE4.out.perm (star_left_comm _ _ _)))
        have HBR : Hid (Reads w0 (LSl (.slice (some ⟨ob, off, none⟩) k ocap) ro * (IntSl u7 V0 * (EvO eb ((q : Int), 3, x3) * (L5 lb rl * R)))) rv B) := Lib.hid (fun w' ho => (HRR.out _ _ ho).2)
        have f1 := (HRR.out _ _ HE4.out).1
        go_wp2_with fail
        refine (joined_any HE4.out u7 rv V0 B HV0R.out HBR.out (by rw [HLV0.out, HBL.out]) (by rw [HLV0.out]; omega)).mono ?_
        rintro e w5 ⟨v5, rfl, ho⟩
        have HJ : Hid (Own w0 (IntSl v5 (zipMax V0 B) * (EvO eb ((q : Int), 3, x3) * (LSl (.slice (some ⟨ob, off, none⟩) k ocap) ro * (L5 lb rl * R)))) w5) := Lib.hid ((ho.perm (show _ = IntSl u7 V0 * (IntSl v5 (zipMax V0 B) * (EvO eb ((q : Int), 3, x3) * (LSl (.slice (some ⟨ob, off, none⟩) k ocap) ro * (L5 lb rl * R)))) by ac_rfl)).drop)
        clear ho
        go_wp2_with fail
        refine NoPanic.normal ?_
        go_wp2_with fail
        go_meet
        rw [HVV.out]
        exact HJ.out
    case rest =>
    clear HI3 HE3 d0 d1 d2
    have HI3 := Lib.hid hcut
    clear hcut
    have hb1 := getD_bound HHV1.out.2 (Int.le_refl 0) (Int.natCast_nonneg k) q
    have hl1v := HHV1.out.1
    obtain ⟨m, hm⟩ : ∃ m, m = V1.getD q 0 := ⟨_, rfl⟩
    rw [← hm] at hb1
    have hm0 := hb1.1
    have hmk := hb1.2
    have hnx2 := HNX.out
    rw [← hm] at hnx2
    obtain ⟨V2, hV2⟩ : ∃ V2, V2 = V1.set q (m + 1) := ⟨_, rfl⟩
    rw [← hV2] at hnx2
    have hV2l : V2.length = 5 := by rw [hV2, List.length_set]; exact hl1v
    have hV2I : ∀ x ∈ V2, I64 x := by
      intro x hx
      rw [hV2] at hx
      rcases List.mem_or_eq_of_mem_set hx with hx | hx
      · exact vecIn_I64 HHV1.out (by omega) x hx
      · rw [hx]; unfold I64; omega
    obtain ⟨vb, voff, vcap, e1, hvc1, hvc2, hcell, hfz, _, _, hset⟩ := HI3.out.ints_at (by omega)
    have f1 := hcell q (by omega)
    rw [show V1[q]'(by omega) = m from by rw [hm, List.getD_eq_getElem?_getD, List.getElem?_eq_getElem (by omega)]; rfl] at f1
    have hst := hset q (m + 1) (by omega)
    rw [← hV2] at hst
    rw [hl1v] at e1 hvc1
    unfold maxLen at hvc2
    subst e1
    have HE3 : Hid (Own w0 (EvO eb ((q : Int), x2, x3) * (IntSl (.slice (some ⟨vb, voff, none⟩) 5 vcap) V1 * (LSl u3 ro * (L5 lb rl * R)))) wc) := Lib.hid (HI3.out.perm (by ac_rfl))
    obtain ⟨d0, _, _⟩ := HE3.out.ev
    simp only at d0
    obtain ⟨ws, hws⟩ : ∃ ws, ws = wc.setCell ⟨vb, voff + q, none⟩ (.int .i64 (m + 1)) := ⟨_, rfl⟩
    rw [← hws] at hst
    have HS1 : Hid (Own w0 (EvO eb ((q : Int), x2, x3) * (IntSl (.slice (some ⟨vb, voff, none⟩) 5 vcap) V2 * (LSl u3 ro * (L5 lb rl * R)))) ws) := Lib.hid (hst.perm (by ac_rfl))
    have HM := Lib.hid hm; have HB1 := Lib.hid hb1; have HNX2 := Lib.hid hnx2; have HV2 := Lib.hid hV2; have HCELL := Lib.hid hcell; have HSET := Lib.hid hset; have HL1V := Lib.hid hl1v
    clear hm hb1 hnx2 hV2 hcell hset hl1v
    have HV2L := Lib.hid hV2l
    have HV2I := Lib.hid hV2I
    clear hst hV2l hV2I
    go_upto_region 12 with fail
    rw [← hws]
    clear hws d0 f1 hfz HI3 HE3
    obtain ⟨d0, _, _⟩ := HS1.out.ev
    simp only at d0
    have HS2 : Hid (Own w0 (IntSl (.slice (some ⟨vb, voff, none⟩) 5 vcap) V2 * (L5 lb rl * (EvO eb ((q : Int), x2, x3) * (LSl u3 ro * R)))) ws) := Lib.hid (HS1.out.perm (by ac_rfl))
    have f2 := HS2.out.drop.l5_cell HLV.out
    have f3 := HS2.out.drop.l5_free
    have hput := HS2.out.l5_put (k := q) (by rw [HRLL.out]; exact hq5)
    obtain ⟨wt, hwt⟩ : ∃ wt, wt = ws.setCell ⟨lb, q, none⟩ (.slice (some ⟨vb, voff, none⟩) 5 vcap) := ⟨_, rfl⟩
    rw [← hwt] at hput
    have HP := Lib.hid hput
    clear hput
    go_upto_region 13 with fail
    rw [← hwt]
    clear hwt d0 f2 f3 HS1 HS2
    have hqr : (rl.set q (.slice (some ⟨vb, voff, none⟩) 5 vcap, V2))[q]? = some (.slice (some ⟨vb, voff, none⟩) 5 vcap, V2) := by rw [List.getElem?_set, if_pos rfl, if_pos (by rw [HRLL.out]; exact hq5)]
    have hint := HP.out.l5_row hqr HV2I.out
    have HQR := Lib.hid hqr; have HINT := Lib.hid hint
    clear hqr hint
    go_wp2_with fail
    refine (cloneInts_any HP.out _ V2 HINT.out (by rw [HV2L.out]; omega)).mono ?_
    rintro e w6 ⟨v6, rfl, ho⟩
    obtain ⟨ad6, cap6, hv6⟩ := ho.int_shape
    rw [HV2L.out] at hv6
    subst hv6
    obtain ⟨V6, hV6⟩ : ∃ V6, V6 = Value.slice ad6 5 cap6 := ⟨_, rfl⟩
    rw [← hV6] at ho
    have HA : Hid (Own w0 (Sl 57 1 u3 ro.length (ro.map (·.1)) * (IntSl V6 V2 * (starL rowP ro * (EvO eb ((q : Int), x2, x3) * (L5 lb (rl.set q (.slice (some ⟨vb, voff, none⟩) 5 vcap, V2)) * R))))) w6) := Lib.hid (ho.perm (by unfold LSl; ac_rfl))
    clear ho
    have hrol := HROL.out
    have hone : (Value.slice ad6 5 cap6).oneCell' = true := rfl
    have HONE := Lib.hid hone
    have HRO2 : Hid ((ro ++ [(V6, V2)]).map (·.2) = (vecState hs (k + 1)).1) := Lib.hid (by rw [HSTATE.out, HNX2.out, List.map_append, HRO.out]; rfl)
    have HRL2 : Hid ((rl.set q (.slice (some ⟨vb, voff, none⟩) 5 vcap, V2)).map (·.2) = (vecState hs (k + 1)).2) := Lib.hid (by rw [HSTATE.out, HNX2.out, map_put HRL.out])
    have HZ2 : Hid (∀ (j : Nat) v, (rl.set q (.slice (some ⟨vb, voff, none⟩) 5 vcap, V2))[j]? = some (v, []) → v = .slice none 0 0) := Lib.hid (fun j v hj => by
      rw [List.getElem?_set] at hj
      split at hj
      · split at hj
        · have h7 := congrArg (fun z => z.2.length) (Option.some.inj hj)
          simp only [HV2L.out] at h7
          cases h7
        · cases hj
      · exact HZ.out j v hj)
    clear hone
    rw [hV6] at HA HRO2
    clear hV6 V6
    go_wp2_with (at_builtin; refine wpList_app rfl _ _ 82 rfl 57 1 24 _ info_ints Tryz.underlying82 rfl (by decide) rfl (HA.out.alloc' _) rfl (by rfl) (Rd_lit (by simp) (by unfold maxLen; omega)) (by intro u hu; simp at hu; subst hu; exact HONE.out) (by unfold maxLen; omega) (by omega) ?_; intro v' w7 hown; have HO7 : Hid (Own w0 (LSl v' (ro ++ [(.slice ad6 5 cap6, V2)]) * (L5 lb (rl.set q (.slice (some ⟨vb, voff, none⟩) 5 vcap, V2)) * R)) w7) := Lib.hid (by have h9 := hown.ls_snoc; exact (h9.perm (show _ = EvO eb ((q : Int), x2, x3) * (LSl v' (ro ++ [(.slice ad6 5 cap6, V2)]) * (L5 lb (rl.set q (.slice (some ⟨vb, voff, none⟩) 5 vcap, V2)) * R)) by ac_rfl)).drop); clear hown)
    go_roundw
    case rel => exact ⟨k + 1, _, _, by omega, by go_num, HRO2, HRL2, HZ2, HO7⟩
    case measure => simp [intOf]; omega
def vecsE (hs : List Ev) : List (List Int) := if (histR hs).2 = 0 then vecsR hs else []
def numsE (hs : List Ev) : List Int := if (histR hs).2 = 0 then numsR hs else []
set_option maxRecDepth 100000 in
set_option maxHeartbeats 4000000 in
theorem vectors_any {w0 w : World} {R : HProp} (v : Value) (hs : List Ev) (h : Own w0 R w) (hv : ReadsE w0 R v hs) :
    Calls Tryz.prog 88 #[v] w fun e w' => ∃ v' rs, e = .returned (.tuple #[v', errV (histR hs).2]) ∧ rs.map (·.2) = vecsE hs ∧ Own w0 (LSl v' rs * R) w' := by
  obtain ⟨had, hcap, rfl, hc1, hc2⟩ := (hv _ h).shape
  obtain ⟨E, hE⟩ : ∃ E, E = (histR hs).2 := ⟨_, rfl⟩
  by_cases h0 : E = 0
  · have hrh := (histR_ok hs).1 (by rw [← hE]; exact h0)
    have hee : errV E = .nilIface := by rw [h0]; rfl
    have H := Lib.hid h; have HV := Lib.hid hv; have HE := Lib.hid hE; have H0 := Lib.hid h0; have HRH := Lib.hid hrh; have HEE := Lib.hid hee
    clear h hv hE h0 hrh hee
    go_enter Tryz.func88, Tryz.ntmps88
    go_wp2_with fail
    refine (hRight_any _ hs H.out HV.out).mono ?_
    rintro e w2 ⟨rfl, ho⟩
    rw [← HE.out, HEE.out]
    have HO2 := Lib.hid ho
    clear ho
    go_wp2_with fail
    refine (of_any _ hs HO2.out HV.out HRH.out).mono ?_
    rintro e w3 ⟨v3, rs, rfl, hm, ho⟩
    have HO3 := Lib.hid ho
    have HM := Lib.hid hm
    clear hm
    clear ho
    go_wp2
    go_ret2
    exact ⟨v3, rs, by rw [← HE.out, HEE.out]; rfl, by unfold vecsE; rw [← HE.out, if_pos H0.out]; exact HM.out, HO3.out⟩
  · have hee := errV_ne h0
    have H := Lib.hid h; have HV := Lib.hid hv; have HE := Lib.hid hE; have H0 := Lib.hid h0; have HEE := Lib.hid hee
    clear h hv hE h0 hee
    go_enter Tryz.func88, Tryz.ntmps88
    go_wp2_with fail
    refine (hRight_any _ hs H.out HV.out).mono ?_
    rintro e w2 ⟨rfl, ho⟩
    rw [← HE.out, HEE.out]
    have HO2 := Lib.hid ho
    clear ho
    go_wp2
    go_ret2
    exact ⟨.slice none 0 0, [], by rw [← HE.out, HEE.out]; rfl, by unfold vecsE; rw [← HE.out, if_neg H0.out]; rfl, by rw [LSl_nil, emp_star]; exact HO2.out⟩
end Go.Proofs.YtdfjbnfdknpahaaGreatDoor
/- A session by text, plainly: the answer to a line, and to a text. -/
namespace Go.Proofs.YtdfjbnfdknpahaaGreatDoor
set_option linter.unusedVariables false
set_option linter.unusedSimpArgs false
open Go.RowKit
def sayW : List UInt8 := [115, 97, 121]
def giveW : List UInt8 := [103, 105, 118, 101]
def dropW : List UInt8 := [100, 114, 111, 112]
def twiceW : List UInt8 := [116, 119, 105, 99, 101]
def wayW : List UInt8 := [119, 97, 121]
def heardW : List UInt8 := [104, 101, 97, 114, 100]
def facesW : List UInt8 := [102, 97, 99, 101, 115]
def clockW : List UInt8 := [99, 108, 111, 99, 107]
def okW : List UInt8 := [111, 107]
def badW : List UInt8 := [98, 97, 100]
/-- How many numbers a word wants. -/
def wantsB (w : List UInt8) : Option Nat :=
  if w = sayW then some 2 else if w = giveW then some 1 else if w = dropW then some 1 else if w = twiceW then some 1 else
  if w = wayW then some 0 else if w = heardW then some 1 else if w = facesW then some 0 else if w = clockW then some 1 else none
def argN (ws : List (List UInt8)) (i : Nat) : Nat := numV (ws.getD i [])
/-- A line that can be read: what is done; the text; the fault. -/
def doR (c : Cs) (w : List UInt8) (a b : Nat) : Cs × List UInt8 × Nat :=
  if w = sayW then (csSay c a b, okW, csSayErr c a b) else
  if w = giveW then (csGive c a, rowT (csGiven c a), csGiveErr c a) else
  if w = dropW then (csDrop c a, okW, ntDropErr c.net a) else
  if w = twiceW then (csTwice c a, okW, ntTwiceErr c.net a) else
  if w = wayW then (c, wayT c.net.all, 0) else
  if w = heardW then (c, rowT (heardE c.hist a), heardErr c.hist a) else
  if w = facesW then (c, faB (facesF c.hist) (facesC c.hist) (facesT c.hist), facesErr c.hist) else
  if (histR c.hist).2 ≠ 0 then (c, [], (histR c.hist).2) else
  if (vecsE c.hist).length ≤ a then (c, [], 1) else (c, rowT ((vecsE c.hist).getD a []), 0)
/-- Can a line be read? -/
def readB (ws : List (List UInt8)) : Bool := ws.tail.all numOk && decide (wantsB (ws.headD []) = some (ws.length - 1))
def lineR (c : Cs) (s : List UInt8) : Cs × List UInt8 × Nat :=
  if readB (cutS 32 s) = true then doR c ((cutS 32 s).headD []) (argN (cutS 32 s).tail 0) (argN (cutS 32 s).tail 1) else (c, [], 9)
def ansB (r : List UInt8 × Nat) : List UInt8 := if r.2 = 9 then badW else if r.2 = 0 then r.1 else nmB r.2
def lineA (c : Cs) (s : List UInt8) : Cs × List UInt8 := ((lineR c s).1, ansB (lineR c s).2)
/-- All answers, a line each. -/
def runA (c : Cs) : List (List UInt8) → List UInt8
  | [] => []
  | s :: r => (lineA c s).2 ++ 10 :: runA (lineA c s).1 r
def runC (c : Cs) : List (List UInt8) → Cs
  | [] => c
  | s :: r => runC (lineA c s).1 r
theorem runC_snoc (c : Cs) (l : List (List UInt8)) (s : List UInt8) : runC c (l ++ [s]) = (lineA (runC c l) s).1 := by
  induction l generalizing c with
  | nil => rfl
  | cons x r ih => exact ih _
theorem runA_snoc (c : Cs) (l : List (List UInt8)) (s : List UInt8) : runA c (l ++ [s]) = runA c l ++ ((lineA (runC c l) s).2 ++ [10]) := by
  induction l generalizing c with
  | nil => rfl
  | cons x r ih =>
    show (lineA c x).2 ++ 10 :: runA (lineA c x).1 (r ++ [s]) = ((lineA c x).2 ++ 10 :: runA (lineA c x).1 r) ++ _
    rw [ih]
    simp only [List.append_assoc, List.cons_append]
    rfl
theorem runA_app (c : Cs) (l m : List (List UInt8)) : runA c (l ++ m) = runA c l ++ runA (runC c l) m := by
  induction l generalizing c with
  | nil => rfl
  | cons x r ih =>
    show (lineA c x).2 ++ 10 :: runA (lineA c x).1 (r ++ m) = ((lineA c x).2 ++ 10 :: runA (lineA c x).1 r) ++ _
    rw [ih]
    simp only [List.append_assoc, List.cons_append]
    rfl
/-- The lines of a text, each with its end. -/
def rawL : List UInt8 → List (List UInt8)
  | [] => []
  | b :: r => if b = 10 then [10] :: rawL r else match rawL r with
    | [] => [[b]]
    | x :: y => (b :: x) :: y
theorem rawL_seg : ∀ (seg r : List UInt8), (10 : UInt8) ∉ seg → rawL (seg ++ 10 :: r) = (seg ++ [10]) :: rawL r
  | [], r, _ => by rw [List.nil_append, rawL, if_pos rfl]; rfl
  | b :: q, r, h => by
    have hb : b ≠ 10 := fun e => h (by rw [e]; exact List.mem_cons_self ..)
    have hq : (10 : UInt8) ∉ q := fun e => h (List.mem_cons_of_mem _ e)
    rw [List.cons_append, rawL, if_neg hb, rawL_seg q r hq]
    rfl
theorem rawL_last : ∀ (seg : List UInt8), (10 : UInt8) ∉ seg → seg ≠ [] → rawL seg = [seg]
  | [], _, h => absurd rfl h
  | [b], h, _ => by
    have hb : b ≠ 10 := fun e => h (by rw [e]; exact List.mem_cons_self ..)
    rw [rawL, if_neg hb]; rfl
  | b :: d :: q, h, _ => by
    have hb : b ≠ 10 := fun e => h (by rw [e]; exact List.mem_cons_self ..)
    have hq : (10 : UInt8) ∉ d :: q := fun e => h (List.mem_cons_of_mem _ e)
    rw [rawL, if_neg hb, rawL_last (d :: q) hq (by simp)]
theorem rawL_app : ∀ (a b : List UInt8), a.getLast? = some 10 → rawL (a ++ b) = rawL a ++ rawL b
  | [], _, h => by cases h
  | x :: q, b, h => by
    cases q with
    | nil =>
      have hx : x = 10 := by simpa using h
      subst hx
      show rawL (10 :: b) = rawL [10] ++ rawL b
      rw [rawL, if_pos rfl, rawL, if_pos rfl]; rfl
    | cons y q =>
      have h2 : (y :: q).getLast? = some 10 := by rw [List.getLast?_cons_cons] at h; exact h
      have ih := rawL_app (y :: q) b h2
      rw [List.cons_append, rawL, rawL, ih]
      by_cases hx : x = 10
      · rw [if_pos hx, if_pos hx]; rfl
      · rw [if_neg hx, if_neg hx]
        have hne : rawL (y :: q) ≠ [] := by
          rw [rawL]
          split
          · simp
          · split <;> simp
        cases hr : rawL (y :: q) with
        | nil => exact absurd hr hne
        | cons u v => rfl
/-- The answers to a text. -/
def sessB (t : List UInt8) : List UInt8 := runA (csNew 3) ((rawL t).map trimB)
theorem sessB_app {a b : List UInt8} (h : a = [] ∨ a.getLast? = some 10) : sessB (a ++ b) = sessB a ++ runA (runC (csNew 3) ((rawL a).map trimB)) ((rawL b).map trimB) := by
  unfold sessB
  rcases h with rfl | h
  · rfl
  · rw [rawL_app a b h, List.map_append, runA_app]
theorem CZ.line {c : Cs} (h : CZ c) (s : List UInt8) : CZ (lineA c s).1 := by
  show CZ (lineR c s).1
  unfold lineR
  split
  · unfold doR
    repeat' split
    all_goals first | exact h.say _ _ | exact h.give _ | exact h.drop _ | exact h.twice _ | exact h
  · exact h
theorem CZ.runC {c : Cs} (h : CZ c) (l : List (List UInt8)) : CZ (runC c l) := by
  induction l generalizing c with
  | nil => exact h
  | cons x r ih => exact ih (h.line x)
end Go.Proofs.YtdfjbnfdknpahaaGreatDoor
/- run's two: words that are numbers, two at most. -/
namespace Go.Proofs.YtdfjbnfdknpahaaGreatDoor
set_option linter.unusedVariables false
set_option linter.unusedSimpArgs false
open Go.RowKit
def Sts (w : World) (v : Value) (ls : List (List UInt8)) : Prop := Rd w v ls.length (ls.map fun l => Value.string (tx l))
abbrev Ar (b : Nat) (x y : Int) : HProp := blk b (.cells #[.int .i64 x, .int .i64 y] 69 (0, 0))
theorem Own.ar {w0 w : World} {b : Nat} {x y : Int} {R : HProp} (h : Own w0 (Ar b x y * R) w) : w.cell? ⟨b, 0, none⟩ = some (.int .i64 x) ∧ w.cell? ⟨b, 1, none⟩ = some (.int .i64 y) ∧ w.frozen? ⟨b, 0, none⟩ = false ∧ w.frozen? ⟨b, 1, none⟩ = false :=
  ⟨(h.cell 0).trans rfl, (h.cell 1).trans rfl, h.free 0 none, h.free 1 none⟩
theorem Own.ar0 {w0 w : World} {b : Nat} {x y : Int} {R : HProp} (h : Own w0 (Ar b x y * R) w) (z : Int) : Own w0 (Ar b z y * R) (w.setCell ⟨b, 0, none⟩ (.int .i64 z)) := h.setCell
theorem Own.ar1 {w0 w : World} {b : Nat} {x y : Int} {R : HProp} (h : Own w0 (Ar b x y * R) w) (z : Int) : Own w0 (Ar b x z * R) (w.setCell ⟨b, 1, none⟩ (.int .i64 z)) := h.setCell
theorem Rd.at' {w : World} {ad : Option Addr} {n cap m : Nat} {xs : List Value} (h : Rd w (.slice ad n cap) m xs) {i : Nat} {u : Value} (hi : xs[i]? = some u) : ∃ a : Addr, ad = some a ∧ w.cell? (a.add i) = some u := by
  obtain ⟨ad', cap', e, _, _, _, h5⟩ := h
  cases e
  exact h5 i u hi
def twoOk (ls : List (List UInt8)) : Bool := ls.all numOk && decide (ls.length ≤ 2)
theorem argN_at {ls : List (List UInt8)} {i : Nat} (hi : i < ls.length) : argN ls i = numV ls[i] := by
  unfold argN; rw [List.getD_eq_getElem?_getD, List.getElem?_eq_getElem hi]; rfl
theorem argN_out {ls : List (List UInt8)} {i : Nat} (hi : ls.length ≤ i) : argN ls i = 0 := by
  unfold argN; rw [List.getD_eq_getElem?_getD, List.getElem?_eq_none hi]; rfl
theorem all_take {ls : List (List UInt8)} {i : Nat} (hi : i < ls.length) (h : (ls.take i).all numOk = true) (hn : numOk ls[i] = true) : (ls.take (i + 1)).all numOk = true := by
  rw [List.take_succ_eq_append_getElem hi, List.all_append, h]; simp [hn]
theorem all_not {ls : List (List UInt8)} {i : Nat} (hi : i < ls.length) (hn : numOk ls[i] = false) : ls.all numOk = false := by
  rw [List.all_eq_false]
  exact ⟨_, List.getElem_mem hi, by rw [hn]; simp⟩
set_option maxHeartbeats 1000000 in
set_option maxRecDepth 100000 in
set_option maxHeartbeats 4000000 in
theorem ptwo_any {w0 w : World} {R : HProp} (hW : RunW w0) (v : Value) (ls : List (List UInt8)) (hl : ls.length ≤ 90000) (hb : ∀ x ∈ ls, x.length ≤ 90000) (hv : ∀ w, Own w0 R w → Sts w v ls) (h : Own w0 R w) :
    Calls Tryz.prog 51 #[v] w fun e w' => ∃ a b, e = .returned (.tuple #[.agg #[.int .i64 a, .int .i64 b], .bool (twoOk ls)]) ∧ (twoOk ls = true → a = (argN ls 0 : Nat) ∧ b = (argN ls 1 : Nat)) ∧ Own w0 R w' := by
  obtain ⟨n, hn⟩ : ∃ n, n = ls.length := ⟨_, rfl⟩
  obtain ⟨ad, cap, rfl, hc1, hc2, hc3, _⟩ := hv _ h
  rw [← hn] at hc1 ⊢
  have hrd : ∀ (i : Nat) (hi : i < ls.length) (w : World), Own w0 R w → ∃ a : Addr, ad = some a ∧ w.cell? (a.add i) = some (.string (tx ls[i])) := fun i hi w ho => Rd.at' (hv w ho) (by rw [List.getElem?_map, List.getElem?_eq_getElem hi]; rfl)
  have hnm : ∀ (i : Nat) (hi : i < ls.length) (w2 : World) (R' : HProp), Own w0 R' w2 → Calls Tryz.prog 72 #[.string (tx ls[i])] w2 fun e w' => ∃ n, e = .returned (.tuple #[.int .i64 n, .bool (numOk ls[i])]) ∧ (numOk ls[i] = true → n = (numV ls[i] : Nat)) ∧ Own w0 R' w' := fun i hi w2 R' ho => pnum_any hW _ (hb _ (List.getElem_mem hi)) ho
  obtain ⟨T, hT⟩ : ∃ T, T = twoOk ls := ⟨_, rfl⟩
  rw [← hT]
  rw [← hn] at hl
  obtain ⟨b2, hb_b2⟩ : ∃ zz_, zz_ = (w).heap.size := ⟨_, rfl⟩
  obtain ⟨w1, hw_w1⟩ : ∃ zz_, zz_ = (w).alloc (.cells #[.int .i64 0, .int .i64 0] 69 (0, 0)) := ⟨_, rfl⟩
  have h_H1 := (h).alloc (.cells #[.int .i64 0, .int .i64 0] 69 (0, 0))
  rw [← hb_b2, ← hw_w1] at h_H1
  have H1 := Lib.hid h_H1
  clear h_H1
  obtain ⟨b4, hb_b4⟩ : ∃ zz_, zz_ = (w1).heap.size := ⟨_, rfl⟩
  obtain ⟨w2, hw_w2⟩ : ∃ zz_, zz_ = (w1).alloc (.cells #[.int .i64 0, .int .i64 0] 69 (0, 0)) := ⟨_, rfl⟩
  have h_H2 := (H1.out).alloc (.cells #[.int .i64 0, .int .i64 0] 69 (0, 0))
  rw [← hb_b4, ← hw_w2] at h_H2
  have H2 := Lib.hid h_H2
  clear h_H2
  have H := Lib.hid h; have HV := Lib.hid hv; have HN := Lib.hid hn; have HRD := Lib.hid hrd; have HNM := Lib.hid hnm; have HT := Lib.hid hT; have HB := Lib.hid hb
  clear h hv hn hrd hnm hT hb
  go_enter Tryz.func51, Tryz.ntmps51
  go_upto_region 1 with fail
  rw [← hb_b2, ← hw_w1]
  clear hb_b2 hw_w1
  go_upto_region 2 with fail
  rw [← hb_b4, ← hw_w2]
  clear hb_b4 hw_w2
  go_wp2_with fail
  go_loopw [11] (fun iv wr => ∃ (i : Nat) (x y : Int), iv = .int .i64 i ∧ i ≤ 2 ∧ i ≤ n ∧ Hid ((ls.take i).all numOk = true) ∧ (1 ≤ i → x = (argN ls 0 : Nat)) ∧ (i < 1 → x = 0) ∧ (2 ≤ i → y = (argN ls 1 : Nat)) ∧ (i < 2 → y = 0) ∧ Hid (Own w0 (Ar b4 x y * (Ar b2 0 0 * R)) wr)) (fun iv _ => n - (intOf iv).toNat)
  case atStart => exact ⟨0, 0, 0, rfl, by omega, Nat.zero_le _, Lib.hid rfl, by omega, fun _ => rfl, by omega, fun _ => rfl, H2⟩
  case round =>
    clear H1 H2
    obtain ⟨i, x, y, rfl, hi2, hin, HAL, hx1, hx0, hy1, hy0, HO⟩ := hrel
    have HX1 := Lib.hid hx1; have HX0 := Lib.hid hx0; have HY1 := Lib.hid hy1; have HY0 := Lib.hid hy0
    clear hx1 hx0 hy1 hy0
    by_cases hlt : i < n
    · have hil : i < ls.length := by rw [← HN.out]; exact hlt
      obtain ⟨a, rfl, hcell⟩ := HRD.out i hil wr (HO.out.drop.drop)
      have hcall := fun w2 ho => HNM.out i hil w2 (Ar b4 x y * (Ar b2 0 0 * R)) ho
      obtain ⟨S, hS⟩ : ∃ S, S = tx ls[i] := ⟨_, rfl⟩
      obtain ⟨K, hK⟩ : ∃ K, K = numOk ls[i] := ⟨_, rfl⟩
      rw [← hS] at hcell hcall
      rw [← hK] at hcall
      have hc5 := hcall wr HO.out
      have HS := Lib.hid hS; have HK := Lib.hid hK; have HCALL := Lib.hid hcall; have HC5 := Lib.hid hc5
      clear hS hK hcall hc5
      go_wp2_with fail
      refine HC5.out.mono ?_
      rintro e w3 ⟨z, rfl, hz, ho⟩
      have HO3 := Lib.hid ho
      clear ho
      cases K
      · have hTf : T = false := by rw [HT.out]; unfold twoOk; rw [all_not hil HK.out.symm]; rfl
        subst hTf
        obtain ⟨g0, g1, g2, g3⟩ := HO3.out.ar
        have ho2 : Own w0 (Ar b2 0 0 * (Ar b4 x y * R)) w3 := HO3.out.perm (by ac_rfl)
        obtain ⟨e0, e1, e2, e3⟩ := ho2.ar
        have hst := (ho2.ar0 x).ar1 y
        obtain ⟨p0, p1, _, _⟩ := hst.ar
        have HO4 := Lib.hid hst.drop.drop
        clear hst ho2
        go_wp2_with fail
        exact bodyPost_ret (v := .tuple #[.agg #[.int .i64 x, .int .i64 y], .bool false]) (by simp [results, Tryz.results51, go_sem, p0, p1]) rfl ⟨x, y, rfl, fun hc => (by cases hc), HO4.out⟩
      · have hall := all_take hil HAL.out HK.out.symm
        have hz2 : z = (argN ls i : Nat) := (hz rfl).trans (by rw [argN_at hil])
        have HALL := Lib.hid hall
        clear hall
        have HZ := Lib.hid hz
        clear hz
        have HZ2 := Lib.hid hz2
        clear hz2
        by_cases h2 : i < 2
        · obtain ⟨g0, g1, g2, g3⟩ := HO3.out.ar
          rcases (show i = 0 ∨ i = 1 by omega) with rfl | rfl
          · have HO4 := Lib.hid (HO3.out.ar0 z)
            go_wp2_with fail
            go_roundw
            case rel => exact ⟨1, z, y, by go_num, by omega, by omega, HALL, fun _ => HZ2.out, by omega, by omega, fun _ => HY0.out (by omega), HO4⟩
            case measure => simp [intOf]; omega
          · have HO4 := Lib.hid (HO3.out.ar1 z)
            go_wp2_with fail
            go_roundw
            case rel => exact ⟨2, x, z, by go_num, by omega, by omega, HALL, fun _ => HX1.out (by omega), by omega, fun _ => HZ2.out, by omega, HO4⟩
            case measure => simp [intOf]; omega
        · have hi22 : i = 2 := by omega
          subst hi22
          have hTf : T = false := by
            rw [HT.out]; unfold twoOk
            rw [show decide (ls.length ≤ 2) = false by rw [decide_eq_false_iff_not]; omega, Bool.and_false]
          subst hTf
          obtain ⟨g0, g1, g2, g3⟩ := HO3.out.ar
          have ho2 : Own w0 (Ar b2 0 0 * (Ar b4 x y * R)) w3 := HO3.out.perm (by ac_rfl)
          obtain ⟨e0, e1, e2, e3⟩ := ho2.ar
          have hst := (ho2.ar0 x).ar1 y
          obtain ⟨p0, p1, _, _⟩ := hst.ar
          have HO4 := Lib.hid hst.drop.drop
          clear hst ho2
          go_wp2_with fail
          exact bodyPost_ret (v := .tuple #[.agg #[.int .i64 x, .int .i64 y], .bool false]) (by simp [results, Tryz.results51, go_sem, p0, p1]) rfl ⟨x, y, rfl, fun hc => (by cases hc), HO4.out⟩
    · have hin2 : i = n := by omega
      subst hin2
      have hTt : T = true := by
        have h1 := HAL.out
        rw [List.take_of_length_le (by have := HN.out; omega)] at h1
        rw [HT.out]; unfold twoOk
        rw [h1, show decide (ls.length ≤ 2) = true by rw [decide_eq_true_eq]; have := HN.out; omega]; rfl
      subst hTt
      have hxx : x = (argN ls 0 : Nat) := by
        by_cases h1 : 1 ≤ i
        · exact HX1.out h1
        · rw [HX0.out (by omega), argN_out (by have := HN.out; omega)]; rfl
      have hyy : y = (argN ls 1 : Nat) := by
        by_cases h1 : 2 ≤ i
        · exact HY1.out h1
        · rw [HY0.out (by omega), argN_out (by have := HN.out; omega)]; rfl
      have HO3 : Hid (Own w0 (Ar b4 x y * (Ar b2 0 0 * R)) wr) := HO
      obtain ⟨w3, hw3⟩ : ∃ w3, w3 = wr := ⟨_, rfl⟩
      subst hw3
      obtain ⟨g0, g1, g2, g3⟩ := HO3.out.ar
      have ho2 : Own w0 (Ar b2 0 0 * (Ar b4 x y * R)) w3 := HO3.out.perm (by ac_rfl)
      obtain ⟨e0, e1, e2, e3⟩ := ho2.ar
      have hst := (ho2.ar0 x).ar1 y
      obtain ⟨p0, p1, _, _⟩ := hst.ar
      have HO4 := Lib.hid hst.drop.drop
      clear hst ho2
      have HXX := Lib.hid hxx; have HYY := Lib.hid hyy
      clear hxx hyy
      go_wp2_with fail
      exact bodyPost_ret (v := .tuple #[.agg #[.int .i64 x, .int .i64 y], .bool true]) (by simp [results, Tryz.results51, go_sem, p0, p1]) rfl (by first | exact ⟨x, y, rfl, fun _ => ⟨HXX.out, HYY.out⟩, HO4.out⟩ | exact ⟨x, y, rfl, ⟨HXX.out, HYY.out⟩, HO4.out⟩)
end Go.Proofs.YtdfjbnfdknpahaaGreatDoor
