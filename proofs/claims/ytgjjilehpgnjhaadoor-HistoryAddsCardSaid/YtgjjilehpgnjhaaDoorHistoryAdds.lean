/- HistoryAdds: an event behind a right history is right, or told at its place; what is said twice never is. -/
import Derived.Test.YtgjjilehpgnjhaaDoorHistoryBeforeP
import Derived.Test.YtgjjilehpgnjhaaDoorHist3
import Derived.Test.YtgjjilehpgnjhaaDoorEvSl
import Derived.Test.YtgjjilehpgnjhaaDoorTold
namespace Go.Proofs.YtgjjilehpgnjhaaDoor
set_option linter.unusedVariables false
set_option linter.unusedSimpArgs false
open Go.RowKit
theorem histGo_app : ∀ (r ahead s : List Ev), (∀ k (hk : k < r.length), evErr (ahead ++ r.take k) r[k] = 0) → histGo ahead (r ++ s) = histGo (ahead ++ r) s
  | [], ahead, s, _ => by simp
  | e :: r, ahead, s, h => by
    have h0 := h 0 (by simp)
    simp only [List.take_zero, List.append_nil, List.getElem_cons_zero] at h0
    rw [List.cons_append, histGo_cons, if_neg (by simpa using h0), histGo_app r (ahead ++ [e]) s (fun k hk => by have := h (k + 1) (by simpa using hk); simpa using this), List.append_assoc]
    rfl
theorem histR_snoc {h : List Ev} (hr : RightH h) (hl : h.length < 60) (e : Ev) : histR (h ++ [e]) = if evErr h e ≠ 0 then (h.length, evErr h e) else (0, 0) := by
  unfold histR
  rw [if_neg (by simp; omega), histGo_app h [] [e] (by simpa using hr.2), List.nil_append, histGo_cons]
  rfl
theorem says_twice {h : List Ev} {who other w : Int} (hr : RightH h) (hl : h.length ≤ 50) (he : (histR (h ++ [(who, 2, w)])).2 = 0) :
    histR ((h ++ [(who, 2, w)]) ++ [(other, 2, w)]) = (h.length + 1, if isMember other then 7 else 1) := by
  have hr2 := (histR_ok _).1 he
  rw [histR_snoc hr2 (by simp; omega)]
  have h1 := hr2.2 h.length (by simp)
  simp only [List.take_left, List.getElem_append_right (Nat.le_refl _), Nat.sub_self, List.getElem_cons_zero] at h1
  have hw := evErr0 h1
  have hword : isWord w = true := by unfold rightB at hw; simp at hw; exact hw.2
  have hs : 0 ≤ saidAt (h ++ [(who, 2, w)]) w := by
    unfold saidAt
    rw [whereI_any]
    exact List.any_eq_true.2 ⟨(who, 2, w), by simp, by simp [saysB]⟩
  have hE : evErr (h ++ [(who, 2, w)]) (other, 2, w) = if isMember other then 7 else 1 := by
    unfold evErr
    cases hm : isMember other
    · rw [if_pos (by unfold rightB; simp [hm])]; rfl
    · rw [if_neg (by unfold rightB; simp [hm, hword]), if_pos (.inl ⟨rfl, hs⟩)]; rfl
  rw [hE, if_pos (by split <;> simp)]
  simp
theorem one_hear : histR [(0, 3, 1)] = (0, 5) := by decide
set_option maxRecDepth 100000 in
set_option maxHeartbeats 4000000 in
theorem historyAdds_law (w : World) (hg : As.Handle w) (v : Value) (hs : List Ev) (hv : Evs w v hs) (wd : Int) (hwd : I64 wd) (who : Int) (hwho : I64 who) (other : Int) (hoth : I64 other) :
    Calls Tryd.prog 3 #[v, .int .i64 wd, .int .i64 who, .int .i64 other] w fun e w' => e = .returned (.bool true) ∧ Below w.heap.size w w' := by
  obtain ⟨had, hcap, rfl, hc1, hc2⟩ := hv.shape
  have hrd := hv.1
  have hgood := hv.2
  have hvR : ∀ R, ReadsE w R (.slice had hs.length hcap) hs := fun R => hv.reads
  obtain ⟨n, hn⟩ : ∃ n, n = hs.length := ⟨_, rfl⟩
  rw [← hn] at hc1 hvR hrd ⊢
  obtain ⟨b1, hb_b1⟩ : ∃ zz_, zz_ = (w).heap.size := ⟨_, rfl⟩
  obtain ⟨w1, hw_w1⟩ : ∃ zz_, zz_ = (w).alloc (.cells #[.int .i64 0, .int .i64 3, .int .i64 1] 28 (0, 0)) := ⟨_, rfl⟩
  have h_HO1 := (Own.start w).alloc (.cells #[.int .i64 0, .int .i64 3, .int .i64 1] 28 (0, 0))
  rw [← hb_b1, ← hw_w1] at h_HO1
  have HO1 := Lib.hid h_HO1
  clear h_HO1
  have HS1 : Hid (Own w (EvSl (.slice (some ⟨b1, 0, none⟩) 1 1) [(0, 3, 1)] * emp) w1) := Lib.hid (by
    have h9 := Own.sl_mk (ty := 28) (size := 3) (n := 1) (cap := 1) (off := 0) (xs := [.int .i64 0, .int .i64 3, .int .i64 1]) (Nat.le_refl _) (by decide) rfl (by simp) (fun i hi => by simp) HO1.out
    exact h9)
  have HR1 := Lib.hid (EvSl_reads (w0 := w) (R := emp) (v := .slice (some ⟨b1, 0, none⟩) 1 1) (l := [(0, 3, 1)]) (by intro e he; simp at he; subst he; unfold goodEv I64; simp))
  have HVR := Lib.hid hvR
  have HG := Lib.hid hg
  obtain ⟨E, hE⟩ : ∃ E, E = (histR hs).2 := ⟨_, rfl⟩
  obtain ⟨at0, hat0⟩ : ∃ at0, at0 = (histR hs).1 := ⟨_, rfl⟩
  have HV := Lib.hid hv; have HRD := Lib.hid hrd; have HGOOD := Lib.hid hgood; have HN := Lib.hid hn; have HWD := Lib.hid hwd; have HWHO := Lib.hid hwho; have HOTH := Lib.hid hoth; have HE := Lib.hid hE; have HAT0 := Lib.hid hat0
  clear hv hrd hgood hn hwd hwho hoth hE hat0
  clear hvR hg HO1
  go_enter Tryd.func3, Tryd.ntmps3
  go_upto_region 1 with fail
  go_wp2_with fail
  rw [← hb_b1, ← hw_w1]
  clear hb_b1 hw_w1
  refine (hCheck_any _ [(0, 3, 1)] HS1.out HR1.out).mono ?_
  rintro e w2 ⟨rfl, ho⟩
  rw [one_hear]
  have HO2 : Hid (Own w emp w2) := Lib.hid ho.drop
  clear ho
  go_wp2_with fail
  refine (sameErr_any HG.out 5 5 HO2.out).mono ?_
  rintro e w3 ⟨rfl, ho⟩
  rw [show (((5 : Nat) : Int) == 5) = true from rfl]
  have HO3 := Lib.hid ho
  clear ho
  go_wp2_with fail
  refine (hCheck_any _ hs HO3.out (HVR.out _)).mono ?_
  rintro e w4 ⟨rfl, ho⟩
  rw [← HE.out, ← HAT0.out]
  have HO4 := Lib.hid ho
  clear ho
  by_cases h0 : E = 0
  rotate_left
  · have hee := errV_ne h0
    rw [hee]
    have H0 := Lib.hid h0; have HEE := Lib.hid hee
    clear h0 hee
    go_wp2
    go_ret
    exact ⟨rfl, HO4.out.below⟩
  rw [h0, errV0]
  have hrh := (histR_ok hs).1 (by rw [← HE.out]; exact h0)
  by_cases h5 : 50 < n
  · have t5 : decide ((50 : Int) < (n : Int)) = true := decide_eq_true (by omega)
    have t5n : decide (50 < n) = true := decide_eq_true h5
    have H0 := Lib.hid h0; have H5 := Lib.hid h5; have HRH := Lib.hid hrh
    clear h0 h5 hrh
    go_wp2
    go_ret
    exact ⟨rfl, HO4.out.below⟩
  have t5 : decide ((50 : Int) < (n : Int)) = false := decide_eq_false (by omega)
  have t5n : decide (50 < n) = false := decide_eq_false h5
  have HRD4 : Hid (Rd w4 (.slice had n hcap) n (hs.flatMap evCells)) := Lib.hid (HRD.out.later HO4.out)
  have hfl : (hs.flatMap evCells).length = n * 3 := by rw [cells_len evCells 3 (fun _ => rfl), HN.out]
  have HNIL : Hid (Own w (Sl 28 3 (.slice none 0 0) 0 [] * emp) w4) := Lib.hid (HO4.out.sl_nil _ _)
  have h1s := ev_one hs
  have H0 := Lib.hid h0; have HRH := Lib.hid hrh; have HFL := Lib.hid hfl; have H1S := Lib.hid h1s
  clear h0 hrh hfl h1s
  go_upto_region 9 with (at_builtin; refine wpList_app rfl _ _ 22 rfl 28 3 24 _ info_ev Tryd.underlying22 rfl (by decide) rfl HNIL.out rfl HFL.out HRD4.out H1S.out (by unfold maxLen; omega) (by omega) ?_; intro v5 w5 hown; have HO5 : Hid (Own w (Sl 28 3 v5 n (hs.flatMap evCells) * emp) w5) := Lib.hid (hown.perm (by rw [Nat.zero_add, List.nil_append])); clear hown)
  go_upto_region 10 with (at_builtin; refine wpList_app rfl _ _ 22 rfl 28 3 24 _ info_ev Tryd.underlying22 rfl (by decide) rfl (HO5.out.alloc' _) rfl (by rfl) (Rd_lit (by simp) (by unfold maxLen; omega)) (by intro u hu; simp at hu; rcases hu with rfl | rfl | rfl <;> rfl) (by unfold maxLen; omega) (by omega) ?_; intro v6 w6 hown; have HO6 : Hid (Own w (EvSl v6 (hs ++ [(who, 2, wd)]) * emp) w6) := Lib.hid (Own.evs_snoc (l2 := [(who, 2, wd)]) (hown.perm (by rw [← HN.out]; rfl))); clear hown)
  have hg2 : ∀ e ∈ hs ++ [(who, 2, wd)], goodEv e := by
    intro e he
    rcases List.mem_append.1 he with he | he
    · exact HGOOD.out e he
    · simp at he; subst he; exact ⟨HWHO.out, by unfold I64; simp, HWD.out⟩
  have HR6 := Lib.hid (EvSl_reads (w0 := w) (R := emp) (v := v6) hg2)
  obtain ⟨L, hL⟩ : ∃ L, L = hs ++ [(who, 2, wd)] := ⟨_, rfl⟩
  have hsn := histR_snoc HRH.out (by rw [← HN.out]; omega) (who, 2, wd)
  rw [← hL, ← HN.out] at hsn
  have hLl : L.length = n + 1 := by rw [hL]; simp [HN.out]
  rw [← hL] at HO6 HR6
  obtain ⟨E1, hE1⟩ : ∃ E1, E1 = evErr hs (who, 2, wd) := ⟨_, rfl⟩
  rw [← hE1] at hsn
  have HG2 := Lib.hid hg2; have HE1 := Lib.hid hE1
  clear hg2 hE1
  go_wp2_with fail
  refine (hCheck_any _ L HO6.out HR6.out).mono ?_
  rintro e w7 ⟨rfl, ho⟩
  have HO7 := Lib.hid ho
  clear ho
  by_cases h1 : E1 = 0
  rotate_left
  · rw [if_pos h1] at hsn
    rw [hsn]
    have hee := errV_ne h1
    rw [hee]
    have HSN := Lib.hid hsn; have HL := Lib.hid hL; have HLL := Lib.hid hLl; have H1 := Lib.hid h1; have HEE := Lib.hid hee
    clear hsn hL hLl h1 hee
    go_wp2
    go_ret
    exact ⟨by simp, HO7.out.below⟩
  rw [if_neg (by simpa using h1)] at hsn
  rw [hsn, errV0]
  have hRL : (histR (hs ++ [(who, 2, wd)])).2 = 0 := by rw [← hL, hsn]
  have hst := says_twice (other := other) HRH.out (by rw [← HN.out]; omega) hRL
  rw [← hL, ← HN.out] at hst
  have HA7 : Hid (Own w (Sl 28 3 v6 (n + 1) (L.flatMap evCells) * emp) w7) := Lib.hid (HO7.out.perm (by unfold EvSl; rw [hLl]))
  have hg3 : ∀ e ∈ L ++ [(other, 2, wd)], goodEv e := by
    intro e he
    rcases List.mem_append.1 he with he | he
    · exact HG2.out e (hL ▸ he)
    · simp at he; subst he; exact ⟨HOTH.out, by unfold I64; simp, HWD.out⟩
  have HSN := Lib.hid hsn; have HL := Lib.hid hL; have H1 := Lib.hid h1; have HRL := Lib.hid hRL; have HST := Lib.hid hst; have HG3 := Lib.hid hg3; have HLL := Lib.hid hLl
  clear hsn hL h1 hRL hst hg3 hLl
  go_upto_region 14 with (at_builtin; refine wpList_app rfl _ _ 22 rfl 28 3 24 _ info_ev Tryd.underlying22 rfl (by decide) rfl (HA7.out.alloc' _) rfl (by rfl) (Rd_lit (by simp) (by unfold maxLen; omega)) (by intro u hu; simp at hu; rcases hu with rfl | rfl | rfl <;> rfl) (by unfold maxLen; omega) (by omega) ?_; intro v8 w8 hown; have HO8 : Hid (Own w (EvSl v8 (L ++ [(other, 2, wd)]) * emp) w8) := Lib.hid (Own.evs_snoc (l2 := [(other, 2, wd)]) (hown.perm (by rw [HLL.out]; rfl))); clear hown)
  have HR8 := Lib.hid (EvSl_reads (w0 := w) (R := emp) (v := v8) HG3.out)
  go_wp2_with fail
  refine (hCheck_any _ _ HO8.out HR8.out).mono ?_
  rintro e w9 ⟨rfl, ho⟩
  rw [HST.out]
  have HO9 := Lib.hid ho
  clear ho
  have tn : (((n + 1 : Nat) : Int) == (n : Int) + 1) = true := by rw [beq_iff_eq]; omega
  have tn2 : ((n : Int) + 1 == (n : Int) + 1) = true := by simp
  cases hm : isMember other
  · have hm2 : other < 0 ∨ 4 < other := by simp [isMember] at hm; omega
    simp only [Bool.false_eq_true, if_false]
    go_wp2_with fail
    refine (sameErr_any HG.out 1 7 HO9.out).mono ?_
    rintro e w10 ⟨rfl, ho⟩
    rw [show (((1 : Nat) : Int) == 7) = false from rfl]
    have HO10 := Lib.hid ho
    clear ho
    rcases hm2 with h8 | h8
    · have t8 : decide (other < 0) = true := decide_eq_true h8
      have H8 := Lib.hid h8
      clear h8
      go_wp2_with fail
      refine (sameErr_any HG.out 1 1 HO10.out).mono ?_
      rintro e w11 ⟨rfl, ho⟩
      rw [show (((1 : Nat) : Int) == 1) = true from rfl]
      have HO11 := Lib.hid ho
      clear ho
      go_wp2
      go_ret
      exact ⟨rfl, HO11.out.below⟩
    · have t8 : decide (other < 0) = false := decide_eq_false (by omega)
      have t9 : decide (4 < other) = true := decide_eq_true h8
      have H8 := Lib.hid h8
      clear h8
      go_wp2_with fail
      refine (sameErr_any HG.out 1 1 HO10.out).mono ?_
      rintro e w11 ⟨rfl, ho⟩
      rw [show (((1 : Nat) : Int) == 1) = true from rfl]
      have HO11 := Lib.hid ho
      clear ho
      go_wp2
      go_ret
      exact ⟨rfl, HO11.out.below⟩
  · simp only [if_true]
    go_wp2_with fail
    refine (sameErr_any HG.out 7 7 HO9.out).mono ?_
    rintro e w10 ⟨rfl, ho⟩
    rw [show (((7 : Nat) : Int) == 7) = true from rfl]
    have HO10 := Lib.hid ho
    clear ho
    go_wp2
    go_ret
    exact ⟨rfl, HO10.out.below⟩
end Go.Proofs.YtgjjilehpgnjhaaDoor
