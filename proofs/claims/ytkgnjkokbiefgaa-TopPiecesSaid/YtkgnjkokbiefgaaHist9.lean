/- Contracts of package history, continued: Cut. -/
import Derived.Test.YtkgnjkokbiefgaaHist8
namespace Go.Proofs.Ytkgnjkokbiefgaa
set_option linter.unusedVariables false
set_option linter.unusedSimpArgs false
open Go.RowKit
def cutOk (hs : List Ev) (many : List Int) : Bool := decide (cutErr hs many = 0) && cutB hs many
theorem Own.bools_at {w0 w : World} {v : Value} {l : List Bool} {R : HProp} (h : Own w0 (BoolSl v l * R) w) (hl : 0 < l.length) :
    ∃ b o cap, v = .slice (some ⟨b, o, none⟩) l.length cap ∧ l.length ≤ cap ∧ cap ≤ 9223372036854775807 ∧ ∀ j x, l[j]? = some x → w.cell? ⟨b, o + j, none⟩ = some (.bool x) := by
  obtain ⟨b, o, cap, e1, h2⟩ := Own.slAt h (by simpa using hl)
  have f := h2.slAt_facts
  exact ⟨b, o, cap, e1, f.1, f.2.1, fun j x hj => f.2.2.2.1 j _ (by simp [hj])⟩
theorem takenB_len {hs : List Ev} {many : List Int} {k : Nat} : True := trivial
set_option maxRecDepth 100000 in
set_option maxHeartbeats 4000000 in
theorem hCut_any {w0 w : World} {R : HProp} (v vm : Value) (hs : List Ev) (many : List Int) (h : Own w0 R w) (hv : ReadsE w0 R v hs) (hm : Reads w0 R vm many) :
    Calls Try.prog 28 #[v, vm] w fun e w' => e = .returned (.tuple #[.bool (cutOk hs many), errV (cutErr hs many)]) ∧ Own w0 R w' := by
  obtain ⟨had, hcap, rfl, hc1, hc2⟩ := (hv _ h).shape
  obtain ⟨mad, mcap, rfl, hm1, hm2⟩ := (hm _ h).shape
  obtain ⟨E, hE⟩ : ∃ E, E = (histR hs).2 := ⟨_, rfl⟩
  by_cases h0 : E = 0
  rotate_left
  · have hB : cutErr hs many = E := by unfold cutErr; rw [if_pos (by rw [← hE]; exact h0), ← hE]
    have hb_ : cutOk hs many = false := by unfold cutOk; rw [hB]; simp [h0]
    have hee := errV_ne h0
    have H := Lib.hid h; have HV := Lib.hid hv; have HM := Lib.hid hm; have HE := Lib.hid hE; have H0 := Lib.hid h0; have HEE := Lib.hid hee; have HB := Lib.hid hB; have HB_ := Lib.hid hb_
    clear h hv hm hE h0 hee hB hb_
    go_enter Try.func28, Try.ntmps28
    go_wp2_with fail
    refine (hRight_any _ hs H.out HV.out).mono ?_
    rintro e w2 ⟨rfl, ho⟩
    rw [← HE.out, HEE.out]
    have HO2 := Lib.hid ho
    clear ho
    go_wp2
    go_ret2
    exact ⟨by rw [HB.out, HB_.out]; exact congrArg (fun z => Ending.returned (.tuple #[.bool false, z])) HEE.out.symm, HO2.out⟩
  have hee : errV E = .nilIface := by rw [h0]; rfl
  have hrh := (histR_ok hs).1 (by rw [← hE]; exact h0)
  have hlen := hrh.1
  have hB : cutErr hs many = if many.length ≠ 5 then 3 else if (List.range 5).any (cutBadAt hs many) = true then 1 else 0 := by unfold cutErr; rw [if_neg (by rw [← hE]; simpa using h0)]
  obtain ⟨L, hL⟩ : ∃ L, L = many.length := ⟨_, rfl⟩
  rw [← hL] at hm hm1 hB
  rw [← hL]
  by_cases h5 : L = 5
  rotate_left
  · rw [if_pos h5] at hB
    have hb_ : cutOk hs many = false := by unfold cutOk; rw [hB]; simp
    have t1 : ((L : Int) != 5) = true := by simp; omega
    have H := Lib.hid h; have HV := Lib.hid hv; have HM := Lib.hid hm; have HE := Lib.hid hE; have H0 := Lib.hid h0; have HEE := Lib.hid hee; have HB := Lib.hid hB; have HB_ := Lib.hid hb_; have HL := Lib.hid hL; have H5 := Lib.hid h5; have HRH := Lib.hid hrh
    clear h hv hm hE h0 hee hB hb_ hL h5 hrh
    go_enter Try.func28, Try.ntmps28
    go_wp2_with fail
    refine (hRight_any _ hs H.out HV.out).mono ?_
    rintro e w2 ⟨rfl, ho⟩
    rw [← HE.out, HEE.out]
    have HO2 := Lib.hid ho
    clear ho
    go_wp2
    go_ret2
    exact ⟨by rw [HB.out, HB_.out]; rfl, HO2.out⟩
  rw [if_neg (by simpa using h5)] at hB
  subst h5
  obtain ⟨ma, hma⟩ : ∃ ma, mad = some ma := by
    obtain ⟨a, e, _⟩ := (hm _ h).at 0 (by omega)
    exact ⟨a, e⟩
  subst hma
  obtain ⟨n, hn⟩ : ∃ n, n = hs.length := ⟨_, rfl⟩
  have hp := fun (R' : HProp) (w4 : World) (ho : Own w0 (R' * R) w4) => hPasts_any (R := R' * R) (.slice had hs.length hcap) hs ho hv.more hlen
  rw [← hn] at hlen hv hc1
  rw [← hn] at hp
  rw [← hn]
  have HNE := Lib.hid hn.symm
  have HML := Lib.hid hL.symm
  have H := Lib.hid h; have HV := Lib.hid hv; have HM := Lib.hid hm; have HE := Lib.hid hE; have H0 := Lib.hid h0; have HEE := Lib.hid hee; have HB := Lib.hid hB; have HL := Lib.hid hL; have HRH := Lib.hid hrh; have HP := Lib.hid hp; have HN := Lib.hid hn
  clear h hv hm hE h0 hee hB hL hrh hp hn
  go_enter Try.func28, Try.ntmps28
  go_wp2_with fail
  refine (hRight_any _ hs H.out HV.out).mono ?_
  rintro e w2 ⟨rfl, ho⟩
  rw [← HE.out, HEE.out]
  obtain ⟨hb, hb_hb⟩ : ∃ zz_, zz_ = (w2).heap.size := ⟨_, rfl⟩
  obtain ⟨w3, hw_w3⟩ : ∃ zz_, zz_ = (w2).alloc (.cells #[.int .i64 0, .int .i64 0, .int .i64 0, .int .i64 0, .int .i64 0] 136 (0, 0)) := ⟨_, rfl⟩
  have h_HO3 := (ho).alloc (.cells #[.int .i64 0, .int .i64 0, .int .i64 0, .int .i64 0, .int .i64 0] 136 (0, 0))
  rw [← hb_hb, ← hw_w3] at h_HO3
  have HO3 := Lib.hid h_HO3
  clear h_HO3
  clear ho
  go_upto_block 0 with fail
  rw [← hb_hb, ← hw_w3]
  clear hb_hb hw_w3
  have HF : Hid (Own w0 (Five hb [0, 0, 0, 0, 0] * R) w3) := HO3
  go_cut [8] (fun tv wx => Own w0 (BoolSl tv (takenL hs many n) * (Five hb (counts hs n) * R)) wx)
  case first =>
    refine cuTaken w0 R hb n hcap mcap had ma hs many hlen hc1 hc2 hm1 hm2 HNE HML HRH HV HM HF ?_
    intros
    go_step
    go_step
    go_meet
    assumption
  case rest =>
  clear HF HO3
  obtain ⟨tv, htv⟩ : ∃ tv, tv = u8 := ⟨_, rfl⟩
  rw [← htv] at hcut ⊢
  clear htv
  have HT := Lib.hid hcut
  clear hcut
  have HFV : Hid (Own w0 (Five hb (counts hs n) * (BoolSl tv (takenL hs many n) * R)) wc) := Lib.hid (HT.out.perm (star_left_comm _ _ _))
  have HMR := Lib.hid (HM.out _ HT.out.drop.drop)
  go_wp2_with fail
  go_loop [54] (fun iv => ∃ i : Nat, i ≤ 5 ∧ iv = .int .i64 i ∧ Hid (∀ j, j < i → cutBadAt hs many j = false)) (fun iv => 5 - (intOf iv).toNat)
  case atStart => exact ⟨0, Nat.zero_le _, rfl, Lib.hid (fun j h => by omega)⟩
  case round =>
    obtain ⟨i, hi, rfl, hp2⟩ := hrel
    by_cases hlt : i < 5
    · obtain ⟨a', ha', f1⟩ := HMR.out.cell_at i (by rw [HML.out]; exact hlt)
      cases ha'
      have e1 := HFV.out.five_cell i _ (counts_at hs n i hlt)
      obtain ⟨mv, hmv⟩ : ∃ mv, mv = many.getD i 0 := ⟨_, rfl⟩
      obtain ⟨cv, hcv⟩ : ∃ cv : Nat, cv = cnt hs i n := ⟨_, rfl⟩
      rw [← hmv] at f1
      rw [← hcv] at e1
      have hbad : cutBadAt hs many i = (decide (mv < 0) || decide ((cv : Int) < mv)) := by unfold cutBadAt; rw [hmv, hcv, HNE.out]
      have hone : cutBadAt hs many i = true → cutErr hs many = 1 := by
        intro hb1
        rw [HB.out, if_pos]
        exact List.any_eq_true.2 ⟨i, List.mem_range.2 hlt, hb1⟩
      have i0 : (0 : Int) ≤ (i : Int) := by omega
      have i5 : (i : Int) < 5 := by omega
      have HMV := Lib.hid hmv; have HCV := Lib.hid hcv
      clear hmv hcv
      by_cases h1 : mv < 0
      · have t1 : decide (mv < 0) = true := by simpa using h1
        have hE1 : cutErr hs many = 1 := hone (by rw [hbad]; simp [h1])
        have hb_ : cutOk hs many = false := by unfold cutOk; rw [hE1]; simp
        have H1 := Lib.hid h1; have HE1 := Lib.hid hE1; have HB_ := Lib.hid hb_; have HBAD := Lib.hid hbad; have HONE := Lib.hid hone
        clear h1 hE1 hb_ hbad hone
        go_wp2
        go_ret2
        exact ⟨by rw [HB_.out, HE1.out]; rfl, HT.out.drop.drop⟩
      have t1 : decide (mv < 0) = false := by simpa using h1
      by_cases h2 : (cv : Int) < mv
      · have t2 : decide ((cv : Int) < mv) = true := by simpa using h2
        have hE1 : cutErr hs many = 1 := hone (by rw [hbad]; simp [h2])
        have hb_ : cutOk hs many = false := by unfold cutOk; rw [hE1]; simp
        have H1 := Lib.hid h1; have H2 := Lib.hid h2; have HE1 := Lib.hid hE1; have HB_ := Lib.hid hb_; have HBAD := Lib.hid hbad; have HONE := Lib.hid hone
        clear h1 h2 hE1 hb_ hbad hone
        go_wp2
        go_ret2
        exact ⟨by rw [HB_.out, HE1.out]; rfl, HT.out.drop.drop⟩
      have t2 : decide ((cv : Int) < mv) = false := by simpa using h2
      have hn2 : ∀ j, j < i + 1 → cutBadAt hs many j = false := fun j hj => by
        by_cases e : j = i
        · subst e; rw [hbad]; simp [h1, h2]
        · exact hp2.out j (by omega)
      have H1 := Lib.hid h1; have H2 := Lib.hid h2; have HBAD := Lib.hid hbad; have HONE := Lib.hid hone; have HN2 := Lib.hid hn2
      clear h1 h2 hbad hone hn2
      go_wp2
      go_round
      case rel => exact ⟨i + 1, by omega, by go_num, HN2⟩
      case measure => simp [intOf]; omega
    have hi5 : i = 5 := by omega
    subst hi5
    have hE0 : cutErr hs many = 0 := by
      rw [HB.out, if_neg]
      intro hh
      obtain ⟨j, h1, h2⟩ := List.any_eq_true.1 hh
      rw [hp2.out j (List.mem_range.1 h1)] at h2; cases h2
    have hok : cutOk hs many = cutB hs many := by unfold cutOk; rw [hE0]; simp
    have HE0 := Lib.hid hE0; have HOK := Lib.hid hok
    clear hE0 hok
    clear hp2
    go_wp2_with fail
    refine (HP.out _ _ (HT.out.perm (star_assoc _ _ _).symm)).mono ?_
    rintro e w5 ⟨rb, rs, rfl, hm5, ho⟩
    have HO5 : Hid (Own w0 (BTab rb n rs * (BoolSl tv (takenL hs many n) * (Five hb (counts hs n) * R))) w5) := Lib.hid (ho.perm (by ac_rfl))
    have HM5 := Lib.hid hm5
    clear hm5
    clear ho HFV HMR
    go_wp2_with fail
    go_loop [73] (fun kv => ∃ k : Nat, k ≤ n ∧ kv = .int .i64 k ∧ Hid (∀ k', k' < k → takenB hs many k' = true → ∀ i, i < k' → bef hs k' i = true → takenB hs many i = true)) (fun kv => n - (intOf kv).toNat)
    case atStart => exact ⟨0, Nat.zero_le _, rfl, Lib.hid (fun j h => by omega)⟩
    case round =>
      obtain ⟨k, hk, rfl, hq⟩ := hrel
      by_cases hlt : k < n
      rotate_left
      · have hcb : cutB hs many = true := by
          unfold cutB
          rw [decide_eq_true_eq]
          intro k' h1 h2 i h3 h4
          exact hq.out k' (by rw [HNE.out] at h1; omega) h2 i h3 h4
        have HCB := Lib.hid hcb
        clear hcb
        go_wp2
        go_ret2
        exact ⟨by rw [HOK.out, HCB.out, HE0.out]; rfl, HO5.out.drop.drop.drop⟩
      have hrow : (pastsR hs n)[k]? = some ((pastsR hs n).getD k []) := by
        rw [List.getD_eq_getElem?_getD, List.getElem?_eq_getElem (by rw [pastsR_len]; omega)]; rfl
      obtain ⟨cv, hcv⟩ := map_at HM5.out hrow
      obtain ⟨r, hr⟩ : ∃ r, r = (pastsR hs n).getD k [] := ⟨_, rfl⟩
      have hrl : r.length = n := by
        rw [hr, pastsR_row hs n _ (by rw [List.getD_eq_getElem?_getD, List.getElem?_eq_getElem (by rw [pastsR_len]; omega)]; exact List.getElem_mem _)]
        exact HNE.out
      rw [← hr] at hcv
      have hbr : ∀ j, j < n → r[j]? = some (bef hs k j) := fun j hj => by
        unfold bef
        rw [HNE.out, ← hr, List.getD_eq_getElem?_getD, List.getElem?_eq_getElem (by omega)]; rfl
      obtain ⟨cb, co, ccap, rfl⟩ := HO5.out.bt_shape hcv (by omega)
      obtain ⟨_, g2, g3, _, g5, _⟩ := HO5.out.bt_put hcv rfl (by omega)
      have c1 := HO5.out.bt_cell hcv
      rw [hrl] at c1 g2
      have hcells : ∀ j, j < n → w5.cell? ⟨cb, co + j, none⟩ = some (.bool (bef hs k j)) := fun j hj => g5 j _ (hbr j hj)
      obtain ⟨tb, tof, tcap, htv, q2, q3, q5⟩ := Own.bools_at HO5.out.drop (by rw [takenL_len]; omega)
      rw [takenL_len] at htv q2
      subst htv
      have htk : ∀ j, j < n → w5.cell? ⟨tb, tof + j, none⟩ = some (.bool (takenB hs many j)) := fun j hj => q5 j _ (takenL_get hs many n j hj)
      have HCE := Lib.hid hcells
      have HTK := Lib.hid htk
      have k0 : (0 : Int) ≤ (k : Int) := by omega
      have k1 : (k : Int) < (n : Int) := by omega
      have HR := Lib.hid hr; have HRL := Lib.hid hrl; have HBR := Lib.hid hbr; have HCV := Lib.hid hcv; have HROW := Lib.hid hrow
      clear hr hrl hbr hcv hrow
      clear g5 q5 hcells htk
      go_wp2_with fail
      go_loop [80] (fun jv => ∃ j : Nat, j ≤ n ∧ jv = .int .i64 j ∧ Hid (takenB hs many k = true → ∀ i, i < j → i < k → bef hs k i = true → takenB hs many i = true)) (fun jv => n - (intOf jv).toNat)
      case atStart => exact ⟨0, Nat.zero_le _, rfl, Lib.hid (fun _ i h => by omega)⟩
      case round =>
        obtain ⟨j, hj, rfl, hz⟩ := hrel
        by_cases hjt : j < n
        rotate_left
        · have hn3 : ∀ k', k' < k + 1 → takenB hs many k' = true → ∀ i, i < k' → bef hs k' i = true → takenB hs many i = true := fun k' h1 h2 i h3 h4 => by
            by_cases e : k' = k
            · subst e; exact hz.out h2 i (by omega) h3 h4
            · exact hq.out k' (by omega) h2 i h3 h4
          have HN3 := Lib.hid hn3
          clear hn3
          go_wp2
          go_round
          case rel => exact ⟨k + 1, by omega, by go_num, HN3⟩
          case measure => simp [intOf]; omega
        have d1 := HCE.out j hjt
        have d2 := HTK.out k hlt
        have d3 := HTK.out j hjt
        have j0 : (0 : Int) ≤ (j : Int) := by omega
        have j1 : (j : Int) < (n : Int) := by omega
        have hbk : bef hs k j = true → j < k := bef_lt hs k j
        have hnx : (takenB hs many k = true → bef hs k j = true → takenB hs many j = true) → (takenB hs many k = true → ∀ i, i < j + 1 → i < k → bef hs k i = true → takenB hs many i = true) := fun h5 h6 i h7 h8 h9 => by
          by_cases e : i = j
          · subst e; exact h5 h6 h9
          · exact hz.out h6 i (by omega) h8 h9
        have hno : takenB hs many k = true → bef hs k j = true → takenB hs many j = false → cutB hs many = false := fun h5 h6 h7 => by
          unfold cutB
          rw [decide_eq_false_iff_not]
          intro h8
          have := h8 k (by rw [HNE.out]; exact hlt) h5 j (hbk h6) h6
          rw [h7] at this; cases this
        obtain ⟨x, hx⟩ : ∃ x, x = takenB hs many k := ⟨_, rfl⟩
        obtain ⟨y, hy⟩ : ∃ y, y = bef hs k j := ⟨_, rfl⟩
        obtain ⟨z, hzz⟩ : ∃ z, z = takenB hs many j := ⟨_, rfl⟩
        rw [← hy] at d1
        rw [← hx] at d2
        rw [← hzz] at d3
        rw [← hx, ← hy, ← hzz] at hno hnx
        have HNX := Lib.hid hnx
        have HNO := Lib.hid hno
        clear hnx hno hbk
        have HX := Lib.hid hx; have HY := Lib.hid hy; have HZZ := Lib.hid hzz
        clear hx hy hzz
        rcases (show (x = false) ∨ (x = true ∧ y = false) ∨ (x = true ∧ y = true ∧ z = true) ∨ (x = true ∧ y = true ∧ z = false) by cases x <;> cases y <;> cases z <;> simp) with rfl | ⟨rfl, rfl⟩ | ⟨rfl, rfl, rfl⟩ | ⟨rfl, rfl, rfl⟩
        · go_wp2
          go_round
          case rel => exact ⟨j + 1, by omega, by go_num, Lib.hid (by rw [← HX.out]; exact HNX.out (by simp))⟩
          case measure => simp [intOf]; omega
        · go_wp2
          go_round
          case rel => exact ⟨j + 1, by omega, by go_num, Lib.hid (by rw [← HX.out]; exact HNX.out (by simp))⟩
          case measure => simp [intOf]; omega
        · go_wp2
          go_round
          case rel => exact ⟨j + 1, by omega, by go_num, Lib.hid (by rw [← HX.out]; exact HNX.out (by simp))⟩
          case measure => simp [intOf]; omega
        · have hcb := HNO.out rfl rfl rfl
          have HCB := Lib.hid hcb
          clear hcb
          go_wp2
          go_ret2
          exact ⟨by rw [HOK.out, HCB.out, HE0.out]; rfl, HO5.out.drop.drop.drop⟩
end Go.Proofs.Ytkgnjkokbiefgaa
