/- HistoryBefore: who is ahead is an order; a beginning of a history is a cut that could have been. -/
import Derived.Test.YtkgnjkokbiefgaaHist9
namespace Go.Proofs.Ytkgnjkokbiefgaa
set_option linter.unusedVariables false
set_option linter.unusedSimpArgs false
open Go.RowKit
def oneH : List Ev := [(0, 2, 1), (1, 3, 1), (2, 1, 0)]
theorem oneH1 : befB oneH 0 1 = true := by decide +kernel
theorem oneH2 : befErr oneH 0 1 = 0 := by decide +kernel
theorem oneH3 : befB oneH 0 2 = false := by decide +kernel
theorem oneH4 : befErr oneH 0 2 = 0 := by decide +kernel
def oneO : Obj := .cells #[.int .i64 0, .int .i64 2, .int .i64 1, .int .i64 1, .int .i64 3, .int .i64 1, .int .i64 2, .int .i64 1, .int .i64 0] 49 (0, 0)
theorem Own.evs_lit {w0 : World} {b : Nat} {R : HProp} (cs : Array Value) (l : List Ev) (n : Nat) (hcs : cs.toList = l.flatMap evCells) (hn : n = l.length) (hg : ∀ e ∈ l, goodEv e) (hm : n ≤ 1000) :
    ReadsE w0 (blk b (.cells cs 49 (0, 0)) * R) (.slice (some ⟨b, 0, none⟩) n n) l := by
  intro w ho
  subst hn
  refine ⟨Rd_one (cs := l.flatMap evCells) (fun i u hu => ?_) (Nat.le_refl _) (by unfold maxLen; omega), hg⟩
  rw [cell_of_heap ho.blk_at.1, ← hu, ← hcs]
  simp
theorem befErr0 {hs : List Ev} {i k : Int} (h : befErr hs i k = 0) : (histR hs).2 = 0 ∧ insideB hs.length i = false ∧ insideB hs.length k = false := by
  unfold befErr at h
  split at h
  · rename_i h1; exact absurd h h1
  rename_i h1
  split at h
  · cases h
  rename_i h2
  refine ⟨by simpa using h1, ?_, ?_⟩
  · cases hh : insideB hs.length i <;> simp_all
  · cases hh : insideB hs.length k <;> simp_all
theorem befErr_mk {hs : List Ev} {i k : Int} (h1 : (histR hs).2 = 0) (h2 : insideB hs.length i = false) (h3 : insideB hs.length k = false) : befErr hs i k = 0 := by
  unfold befErr; rw [if_neg (by simpa using h1), if_neg (by simp [h2, h3])]
def HbR (w : World) (hs : List Ev) (i k j : Int) (a e1 b e2 c e3 d e4 s e5 : Value) (wx : World) : Prop :=
  a = .bool (befB hs i k) ∧ e1 = errV (befErr hs i k) ∧ b = .bool (befB hs k j) ∧ e2 = errV (befErr hs k j) ∧ c = .bool (befB hs i j) ∧ e3 = errV (befErr hs i j) ∧ d = .bool (befB hs k i) ∧ e4 = errV (befErr hs k i) ∧ s = .bool (befB hs i i) ∧ e5 = errV (befErr hs i i) ∧ Own w emp wx
set_option maxRecDepth 100000 in
set_option maxHeartbeats 4000000 in
theorem historyBefore_law (w : World) (v : Value) (hs : List Ev) (hv : Evs w v hs) (i : Int) (hi : I64 i) (k : Int) (hk : I64 k) (j : Int) (hj : I64 j) :
    Calls Try.prog 6 #[v, .int .i64 i, .int .i64 k, .int .i64 j] w fun e w' => e = .returned (.bool true) ∧ Below w.heap.size w w' := by
  obtain ⟨had, hcap, rfl, hc1, hc2⟩ := hv.shape
  have hv := hv.reads (R := emp)
  obtain ⟨n, hn⟩ : ∃ n, n = hs.length := ⟨_, rfl⟩
  rw [← hn] at hc1 hv ⊢
  obtain ⟨b1, hb_b1⟩ : ∃ zz_, zz_ = (w).heap.size := ⟨_, rfl⟩
  obtain ⟨w1, hw_w1⟩ : ∃ zz_, zz_ = (w).alloc (oneO) := ⟨_, rfl⟩
  have h_HO1 := (Own.start w).alloc (oneO)
  rw [← hb_b1, ← hw_w1] at h_HO1
  have HO1 := Lib.hid h_HO1
  clear h_HO1
  have HL1 : Hid (ReadsE w (blk b1 oneO * emp) (.slice (some ⟨b1, 0, none⟩) 3 3) oneH) := Lib.hid (Own.evs_lit _ oneH 3 rfl rfl (by intro e he; simp [oneH] at he; rcases he with rfl | rfl | rfl <;> (unfold goodEv I64; simp)) (by omega))
  obtain ⟨oo, hoo⟩ : ∃ oo, oo = oneO := ⟨_, rfl⟩
  rw [← hoo] at HO1 HL1
  unfold oneO at hoo
  have HOO := hoo
  rw [show oneO = oo from by rw [hoo]; rfl] at hw_w1
  have HV := Lib.hid hv; have HI := Lib.hid hi; have HK := Lib.hid hk; have HJ := Lib.hid hj; have HN := Lib.hid hn
  clear hv hi hk hj hn
  go_enter Try.func6, Try.ntmps6
  go_upto_region 2 with fail
  rw [← HOO]
  rw [← hb_b1, ← hw_w1]
  clear hb_b1 hw_w1
  clear HOO hoo
  go_wp2_with fail
  refine (hBefore_any _ oneH 0 1 (by unfold I64; omega) (by unfold I64; omega) HO1.out HL1.out).mono ?_
  rintro e w2 ⟨rfl, ho⟩
  rw [oneH1, oneH2, errV0]
  have HO2 := Lib.hid ho
  clear ho
  go_wp2_with fail
  refine (hBefore_any _ oneH 0 2 (by unfold I64; omega) (by unfold I64; omega) HO2.out HL1.out).mono ?_
  rintro e w3 ⟨rfl, ho⟩
  rw [oneH3, oneH4, errV0]
  have HO3 := Lib.hid ho.drop
  clear ho HO2 HO1 HL1
  go_upto_region 6 with fail
  go_wp2_with fail
  refine (hBefore_any _ hs i k HI.out HK.out HO3.out HV.out).mono ?_
  rintro e w4 ⟨rfl, ho⟩
  have HO4 := Lib.hid ho
  clear ho
  go_wp2_with fail
  refine (hBefore_any _ hs k j HK.out HJ.out HO4.out HV.out).mono ?_
  rintro e w5 ⟨rfl, ho⟩
  have HO5 := Lib.hid ho
  clear ho
  go_wp2_with fail
  refine (hBefore_any _ hs i j HI.out HJ.out HO5.out HV.out).mono ?_
  rintro e w6 ⟨rfl, ho⟩
  have HO6 := Lib.hid ho
  clear ho
  go_wp2_with fail
  refine (hBefore_any _ hs k i HK.out HI.out HO6.out HV.out).mono ?_
  rintro e w7 ⟨rfl, ho⟩
  have HO7 := Lib.hid ho
  clear ho
  go_wp2_with fail
  refine (hBefore_any _ hs i i HI.out HI.out HO7.out HV.out).mono ?_
  rintro e w8 ⟨rfl, ho⟩
  have HO8 := Lib.hid ho
  clear ho
  go_upto_region 11 with fail
  obtain ⟨E1, hE1⟩ : ∃ E, E = befErr hs i k := ⟨_, rfl⟩
  obtain ⟨E2, hE2⟩ : ∃ E, E = befErr hs k j := ⟨_, rfl⟩
  obtain ⟨E3, hE3⟩ : ∃ E, E = befErr hs i j := ⟨_, rfl⟩
  obtain ⟨E4, hE4⟩ : ∃ E, E = befErr hs k i := ⟨_, rfl⟩
  obtain ⟨E5, hE5⟩ : ∃ E, E = befErr hs i i := ⟨_, rfl⟩
  rw [← hE1, ← hE2, ← hE3, ← hE4, ← hE5]
  have hall : E1 = 0 → E2 = 0 → E3 = 0 ∧ E4 = 0 ∧ E5 = 0 := by
    intro h1 h2
    rw [hE1] at h1; rw [hE2] at h2
    obtain ⟨a1, a2, a3⟩ := befErr0 h1
    obtain ⟨_, _, b3⟩ := befErr0 h2
    exact ⟨by rw [hE3]; exact befErr_mk a1 a2 b3, by rw [hE4]; exact befErr_mk a1 a3 a2, by rw [hE5]; exact befErr_mk a1 a2 a2⟩
  clear hv
  have HE1 := Lib.hid hE1; have HE2 := Lib.hid hE2; have HE3 := Lib.hid hE3; have HE4 := Lib.hid hE4; have HE5 := Lib.hid hE5; have HALL := Lib.hid hall
  clear hE1 hE2 hE3 hE4 hE5 hall
  by_cases h1 : E1 = 0
  rotate_left
  · have e1 := errV_ne h1
    rw [e1]
    have H1 := Lib.hid h1; have E1 := Lib.hid e1
    clear h1 e1
    go_wp2
    go_ret
    exact ⟨rfl, HO8.out.below⟩
  by_cases h2 : E2 = 0
  rotate_left
  · have e2 := errV_ne h2
    rw [e2, h1, errV0]
    have H2 := Lib.hid h2; have E2 := Lib.hid e2; have H1 := Lib.hid h1
    clear h2 e2 h1
    go_wp2
    go_ret
    exact ⟨rfl, HO8.out.below⟩
  obtain ⟨h3, h4, h5⟩ := HALL.out h1 h2
  rw [h1, h2, h3, h4, h5, errV0]
  obtain ⟨z1, z2, z3⟩ := befErr0 (HE1.out.symm.trans h1)
  obtain ⟨_, _, z4⟩ := befErr0 (HE2.out.symm.trans h2)
  have hrh := (histR_ok hs).1 z1
  rw [show befB hs i i = false from by
    unfold befB
    cases hh : bef hs i.toNat i.toNat
    · simp
    · have := bef_lt hs _ _ hh; omega]
  have hd1 : befB hs i k = true → befB hs k i = false := by
    intro h7
    unfold befB at h7 ⊢
    simp only [Bool.and_eq_true] at h7
    cases hh : bef hs i.toNat k.toNat
    · simp
    · have h8 := bef_lt hs _ _ hh
      have h9 := bef_lt hs _ _ h7.2
      omega
  have hd2 : befB hs i k = true → befB hs k j = true → befB hs i j = true := by
    intro h7 h8
    unfold befB at h7 h8 ⊢
    simp only [Bool.and_eq_true] at h7 h8
    rw [← HE3.out, h3]
    simp only [decide_true, Bool.true_and]
    exact bef_trans hs _ _ _ h8.2 h7.2
  have hd3 : befB hs i k = true → i < k := by
    intro h7
    unfold befB at h7
    simp only [Bool.and_eq_true] at h7
    have h8 := bef_lt hs _ _ h7.2
    have := insideB_no z2
    have := insideB_no z3
    omega
  obtain ⟨A, hA⟩ : ∃ A, A = befB hs i k := ⟨_, rfl⟩
  obtain ⟨B, hB⟩ : ∃ B, B = befB hs k j := ⟨_, rfl⟩
  obtain ⟨C, hC⟩ : ∃ C, C = befB hs i j := ⟨_, rfl⟩
  obtain ⟨D, hD⟩ : ∃ D, D = befB hs k i := ⟨_, rfl⟩
  rw [← hA, ← hD] at hd1
  rw [← hA, ← hB, ← hC] at hd2
  rw [← hA] at hd3
  rw [← hA, ← hB, ← hC, ← hD]
  have hlen := hrh.1
  rw [← HN.out] at hlen
  have HH1 := Lib.hid hd1; have HH2 := Lib.hid hd2; have HH3 := Lib.hid hd3
  clear hd1 hd2 hd3
  have HA := Lib.hid hA; have HB := Lib.hid hB; have HC := Lib.hid hC; have HD := Lib.hid hD; have H1 := Lib.hid h1; have H2 := Lib.hid h2; have H3 := Lib.hid h3; have H4 := Lib.hid h4; have H5 := Lib.hid h5; have Z1 := Lib.hid z1; have Z2 := Lib.hid z2; have Z3 := Lib.hid z3; have Z4 := Lib.hid z4; have HRH := Lib.hid hrh
  clear hA hB hC hD h1 h2 h3 h4 h5 z1 z2 z3 z4 hrh
  go_upto_region 13 with fail
  go_cut [132] (fun tv wx => tv = .bool false ∧ wx = w8)
  case first =>
    cases A
    · go_wp2_with fail
      go_meet
      exact ⟨rfl, rfl⟩
    have d0 := HH1.out rfl
    have d3 := HH3.out rfl
    have t3 : decide (k ≤ i) = false := by simp; omega
    subst d0
    cases B
    · have D3 := Lib.hid d3
      clear d3
      go_wp2_with fail
      go_meet
      exact ⟨rfl, rfl⟩
    have d2 := HH2.out rfl rfl
    subst d2
    have D3 := Lib.hid d3
    clear d3
    go_wp2_with fail
    go_meet
    exact ⟨rfl, rfl⟩
  case rest =>
  obtain ⟨rfl, rfl⟩ := hcut
  go_wp2_with (at_make; refine wpList_mk rfl _ _ 27 rfl 3 8 (.int .i64 0) Try.underlying27 info_int rfl 5 rfl rfl (by omega) (by decide) HO8.out ?_; intro mb w9 ho; have HO9 : Hid (Own w (IntSl (.slice (some ⟨mb, 0, none⟩) 5 5) (counts hs 0) * emp) w9) := Lib.hid (by rw [counts_zero]; exact ho.sl_of_at); clear ho)
  go_loopw [25] (fun nv wr => ∃ m : Nat, m ≤ n ∧ nv = .int .i64 m ∧ Hid (Own w (IntSl (.slice (some ⟨mb, 0, none⟩) 5 5) (counts hs m) * emp) wr)) (fun nv _ => n - (intOf nv).toNat)
  case atStart => exact ⟨0, Nat.zero_le _, rfl, HO9⟩
  case round =>
    clear HO9
    obtain ⟨m, hm, rfl, HO⟩ := hrel
    by_cases hlt : m < n
    rotate_left
    · go_wp2
      go_ret
      exact ⟨rfl, HO.out.below⟩
    have hml : m < hs.length := by rw [← HN.out]; exact hlt
    obtain ⟨aa, pb, po, ps, rfl, hea, hcs, _⟩ := HV.out.more.at HO.out m hml
    obtain ⟨x, hx⟩ : ∃ x, x = evAt hs m := ⟨_, rfl⟩
    have hwho := HRH.out.who hml
    rw [← hx] at hcs hwho
    obtain ⟨c0, c1, c2⟩ := hcs _ HO.out
    obtain ⟨x1, x2, x3⟩ := x
    simp only at c0 c1 c2 hwho
    obtain ⟨q, rfl⟩ : ∃ q : Nat, x1 = (q : Int) := ⟨x1.toNat, by omega⟩
    have hq5 : q < 5 := by omega
    obtain ⟨b, off, cap, e1, _, _, hcell, hfz, _, _, hset⟩ := HO.out.ints_at (by rw [counts_len]; omega)
    rw [counts_len] at e1
    injection e1 with e1 _ e3
    injection e1 with e1
    injection e1 with e1 e2 _
    subst e1; subst e2; subst e3
    obtain ⟨cv, hcv⟩ : ∃ cv : Nat, cv = cnt hs q m := ⟨_, rfl⟩
    have hcv2 : cv ≤ 60 := by rw [hcv]; have := cnt_le hs q m; omega
    have f1 : w9.cell? ⟨mb, 0 + q, none⟩ = w9.cell? ⟨mb, 0 + q, none⟩ := rfl
    have f2 := hcell q (by rw [counts_len]; omega)
    have hge : (counts hs m)[q]'(by rw [counts_len]; omega) = (cv : Int) := by
      have := counts_at hs m q hq5
      rw [List.getElem?_eq_getElem (l := counts hs m) (i := q) (by rw [counts_len]; omega)] at this
      rw [hcv]; exact Option.some.inj this
    rw [hge, Nat.zero_add] at f2
    have hst := hset q ((cv : Int) + 1) (by rw [counts_len]; omega)
    have hnx : (counts hs m).set q ((cv : Int) + 1) = counts hs (m + 1) := by
      rw [counts_step hs HRH.out m hml, ← hx]
      simp only [Int.toNat_natCast]
      rw [← hcv]
    rw [hnx, Nat.zero_add] at hst
    obtain ⟨ce_, cb⟩ := cut_counts hs HRH.out m hml
    have hok : cutOk hs (counts hs (m + 1)) = true := by unfold cutOk; rw [ce_, cb]; rfl
    have hI : ∀ x ∈ counts hs (m + 1), I64 x := by
      intro x hx
      simp only [counts, List.mem_map, List.mem_range] at hx
      obtain ⟨y, _, rfl⟩ := hx
      have := cnt_le hs y (m + 1)
      unfold I64; omega
    obtain ⟨wt, hwt⟩ : ∃ wt, wt = wr.setCell ⟨mb, q, none⟩ (.int .i64 ((cv : Int) + 1)) := ⟨_, rfl⟩
    rw [← hwt] at hst
    have HST := Lib.hid hst
    have HRD := Lib.hid (IntSl_reads (w0 := w) (R := emp) (v := .slice (some ⟨mb, 0, none⟩) 5 5) hI)
    have m0 : (0 : Int) ≤ (m : Int) := Int.natCast_nonneg m
    have tq : decide ((q : Int) < 0) = false := by simp
    have tr : decide ((5 : Int) ≤ (q : Int)) = false := decide_eq_false (by omega)
    have HCS := Lib.hid hcs; have HX := Lib.hid hx; have HWHO := Lib.hid hwho; have HCELL := Lib.hid hcell; have HSET := Lib.hid hset; have HCV := Lib.hid hcv; have HGE := Lib.hid hge; have HNX := Lib.hid hnx; have CE_ := Lib.hid ce_; have CB := Lib.hid cb; have HOK := Lib.hid hok; have HI := Lib.hid hI
    clear hcs hx hwho hcell hset hcv hge hnx ce_ cb hok hI
    clear hst f1
    have HVM : Hid (ReadsE w (IntSl (.slice (some ⟨mb, 0, none⟩) 5 5) (counts hs (m + 1)) * emp) (.slice (some aa) n hcap) hs) := Lib.hid HV.out.more
    go_upto_region 22 with fail
    rw [← hwt]
    clear hwt f2 hfz c0 c1 c2
    go_wp2_with fail
    refine (hCut_any _ _ hs (counts hs (m + 1)) HST.out HVM.out HRD.out).mono ?_
    rintro e w10 ⟨rfl, ho⟩
    rw [HOK.out, CE_.out, errV0]
    have HO10 := Lib.hid ho
    clear ho
    go_wp2
    go_roundw
    case rel => exact ⟨m + 1, by omega, by go_num, HO10⟩
    case measure => simp [intOf]; omega
end Go.Proofs.Ytkgnjkokbiefgaa
