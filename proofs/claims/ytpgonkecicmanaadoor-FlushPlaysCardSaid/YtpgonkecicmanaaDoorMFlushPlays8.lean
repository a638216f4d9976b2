/- Contracts of the reference: what is wrong with a view; who is shared; the next view. -/
import Derived.Test.YtpgonkecicmanaaDoorMFlushPlays7
import Derived.Test.YtpgonkecicmanaaDoorMFlushPlays3
import Derived.Test.YtpgonkecicmanaaDoorMFlushPlays4
namespace Go.Proofs.YtpgonkecicmanaaDoor
set_option linter.unusedVariables false
set_option linter.unusedSimpArgs false
open Go.RowKit
theorem memGo_cons (p x : Int) (r : List Int) : memGo p (x :: r) = if isMember x = false then 1 else if x ≤ p then 3 else memGo x r := rfl
def prevOf (l : List Int) (k : Nat) : Int := if k = 0 then -1 else l.getD (k - 1) 0
set_option maxRecDepth 100000 in
set_option maxHeartbeats 4000000 in
theorem refHas_any {w0 w : World} {R : HProp} (v : Value) (l : List Int) (h : Own w0 R w) (hl : Reads w0 R v l) :
    Calls Tryd.prog 114 #[v] w fun e w' => e = .returned (.int .i64 (memErr l : Nat)) ∧ Own w0 R w' := by
  obtain ⟨ad, cap, rfl, hlc, hcap⟩ := (hl _ h).shape
  obtain ⟨n, hn⟩ : ∃ n, n = l.length := ⟨_, rfl⟩
  rw [← hn] at hlc hl ⊢
  by_cases h0 : n = 0
  · have hE : memErr l = 5 := by unfold memErr; rw [if_pos (List.eq_nil_of_length_eq_zero (by omega))]
    subst h0
    have H := Lib.hid h; have HL := Lib.hid hl; have HN := Lib.hid hn; have HE := Lib.hid hE
    clear h hl hn hE
    go_enter Tryd.func114, Tryd.ntmps114
    go_wp2
    go_ret
    exact ⟨by rw [HE.out]; rfl, H.out⟩
  have hE : memErr l = memGo (-1) l := by unfold memErr; rw [if_neg (by intro e; rw [e] at hn; exact h0 hn)]
  have t0 : ((n : Int) == 0) = false := by rw [beq_eq_false_iff_ne]; omega
  have H := Lib.hid h; have HL := Lib.hid hl; have HN := Lib.hid hn; have HE := Lib.hid hE
  clear h hl hn hE
  go_enter Tryd.func114, Tryd.ntmps114
  go_wp2_with fail
  go_loopw [3] (fun iv wr => ∃ k : Nat, k ≤ n ∧ iv = .int .i64 k ∧ Hid (memGo (prevOf l k) (l.drop k) = memErr l) ∧ Hid (0 < k → 0 ≤ prevOf l k) ∧ Hid (Own w0 R wr)) (fun iv _ => n - (intOf iv).toNat)
  case atStart => exact ⟨0, Nat.zero_le _, rfl, Lib.hid HE.out.symm, Lib.hid (fun h => by omega), H⟩
  case round =>
    obtain ⟨k, hk, rfl, HM, HP, HO⟩ := hrel
    by_cases hlt : k < n
    rotate_left
    · have hfin : memErr l = 0 := by
        have := HM.out
        rw [List.drop_of_length_le (by rw [← HN.out]; omega)] at this
        rw [← this]; rfl
      have HFIN := Lib.hid hfin
      clear hfin
      go_wp2
      go_ret
      exact ⟨by rw [HFIN.out]; rfl, HO.out⟩
    have hkl : k < l.length := by rw [← HN.out]; exact hlt
    obtain ⟨a, rfl, hc⟩ := (HL.out _ HO.out).at k hkl
    obtain ⟨x, hx⟩ : ∃ x, x = l[k] := ⟨_, rfl⟩
    rw [← hx] at hc
    have hg := HM.out
    rw [List.drop_eq_getElem_cons hkl, ← hx, memGo_cons] at hg
    have hpn : prevOf l (k + 1) = x := by unfold prevOf; rw [if_neg (by omega), Nat.add_sub_cancel, List.getD_eq_getElem?_getD, List.getElem?_eq_getElem hkl, ← hx]; rfl
    have k0 : (0 : Int) ≤ (k : Int) := by omega
    have kn : (k : Int) < (n : Int) := by omega
    by_cases h1 : x < 0
    · have hE1 : memErr l = 1 := by rw [← hg, if_pos (by simp [isMember]; omega)]
      have t1 : decide (x < 0) = true := by simpa using h1
      have HX := Lib.hid hx; have HG := Lib.hid hg; have HPN := Lib.hid hpn; have H1 := Lib.hid h1; have HE1 := Lib.hid hE1
      clear hx hg hpn h1 hE1
      go_wp2
      go_ret
      exact ⟨by rw [HE1.out]; rfl, HO.out⟩
    have t1 : decide (x < 0) = false := by simpa using h1
    by_cases h2 : 4 < x
    · have hE1 : memErr l = 1 := by rw [← hg, if_pos (by simp [isMember]; omega)]
      have t2 : decide (4 < x) = true := by simpa using h2
      have HX := Lib.hid hx; have HG := Lib.hid hg; have HPN := Lib.hid hpn; have H1 := Lib.hid h1; have H2 := Lib.hid h2; have HE1 := Lib.hid hE1
      clear hx hg hpn h1 h2 hE1
      go_wp2
      go_ret
      exact ⟨by rw [HE1.out]; rfl, HO.out⟩
    have t2 : decide (4 < x) = false := by simpa using h2
    rw [if_neg (by simp [isMember]; omega)] at hg
    by_cases hz : k = 0
    · have hp0 : prevOf l k = -1 := by unfold prevOf; rw [if_pos hz]
      rw [hp0, if_neg (by omega), ← hpn] at hg
      have hg2 : memGo (prevOf l (k + 1)) (l.drop (k + 1)) = memErr l := hg
      have hx0 : 0 ≤ prevOf l (k + 1) := by rw [hpn]; omega
      have t3 : decide ((0 : Int) < (k : Int)) = false := decide_eq_false (by omega)
      have t3n : decide (0 < k) = false := decide_eq_false (by omega)
      have HX := Lib.hid hx; have HG := Lib.hid hg; have HPN := Lib.hid hpn; have H1 := Lib.hid h1; have H2 := Lib.hid h2; have HP0 := Lib.hid hp0; have HG2 := Lib.hid hg2; have HX0 := Lib.hid hx0; have HZ := Lib.hid hz
      clear hx hg hpn h1 h2 hp0 hg2 hx0 hz
      go_wp2_with fail
      go_quiet (fail)
      go_wp2_with fail
      go_roundw
      case rel => exact ⟨k + 1, by omega, by go_num, HG2, Lib.hid (fun _ => HX0.out), Lib.hid (HO.out.drewN _)⟩
      case measure => simp [intOf]; omega
    · obtain ⟨j, hj⟩ : ∃ j, k = j + 1 := ⟨k - 1, by omega⟩
      obtain ⟨a', ha', hc2⟩ := (HL.out _ HO.out).at j (by omega)
      cases ha'
      have hjl : j < l.length := by omega
      obtain ⟨y, hc3, hy⟩ : ∃ y, wr.cell? (a.add j) = some (.int .i64 y) ∧ y = l.getD j 0 := ⟨l[j], hc2, by rw [List.getD_eq_getElem?_getD, List.getElem?_eq_getElem hjl]; rfl⟩
      clear hc2 hjl
      have hp1 : prevOf l k = y := by unfold prevOf; rw [if_neg (by omega), show k - 1 = j by omega, hy]
      rw [hp1] at hg
      have t3 : decide ((0 : Int) < (k : Int)) = true := decide_eq_true (by omega)
      have t3n : decide (0 < k) = true := decide_eq_true (by omega)
      have tj : (k : Int) - 1 = (j : Int) := by omega
      have j0 : (0 : Int) ≤ (j : Int) := by omega
      have jn : (j : Int) < (n : Int) := by omega
      by_cases h3 : x ≤ y
      · have t4 : decide (x ≤ y) = true := by simpa using h3
        rw [if_pos h3] at hg
        have HX := Lib.hid hx; have HG := Lib.hid hg; have HPN := Lib.hid hpn; have H1 := Lib.hid h1; have H2 := Lib.hid h2; have H3 := Lib.hid h3; have HP1 := Lib.hid hp1; have HY := Lib.hid hy; have HZ := Lib.hid hz; have HJ := Lib.hid hj
        clear hx hg hpn h1 h2 h3 hp1 hy hz hj
        go_wp2_with fail
        go_quiet (fail)
        go_wp2_with fail
        go_ret
        exact ⟨by rw [← HG.out]; rfl, HO.out.drewN _⟩
      · have t4 : decide (x ≤ y) = false := by simpa using h3
        rw [if_neg h3, ← hpn] at hg
        have hx0 : 0 ≤ prevOf l (k + 1) := by rw [hpn]; omega
        have HX := Lib.hid hx; have HG := Lib.hid hg; have HPN := Lib.hid hpn; have H1 := Lib.hid h1; have H2 := Lib.hid h2; have H3 := Lib.hid h3; have HP1 := Lib.hid hp1; have HY := Lib.hid hy; have HX0 := Lib.hid hx0; have HZ := Lib.hid hz; have HJ := Lib.hid hj
        clear hx hg hpn h1 h2 h3 hp1 hy hx0 hz hj
        go_wp2_with fail
        go_quiet (fail)
        go_wp2_with fail
        go_roundw
        case rel => exact ⟨k + 1, by omega, by go_num, HG, Lib.hid (fun _ => HX0.out), Lib.hid (HO.out.drewN _)⟩
        case measure => simp [intOf]; omega
set_option maxRecDepth 100000 in
set_option maxHeartbeats 4000000 in
theorem refShared_any {w0 w : World} {R : HProp} (va vb : Value) (A B : List Int) (h : Own w0 R w) (hA : Reads w0 R va A) (hB : Reads w0 R vb B) (hlen : A.length ≤ 100000) :
    Calls Tryd.prog 86 #[va, vb] w fun e w' => ∃ v', e = .returned v' ∧ Own w0 (IntSl v' (keepB B A) * R) w' := by
  obtain ⟨ad, cap, rfl, hlc, hcap⟩ := (hA _ h).shape
  obtain ⟨n, hn⟩ : ∃ n, n = A.length := ⟨_, rfl⟩
  rw [← hn] at hlc hA hlen ⊢
  have H := Lib.hid h; have HA := Lib.hid hA; have HB := Lib.hid hB; have HN := Lib.hid hn
  clear h hA hB hn
  go_enter Tryd.func86, Tryd.ntmps86
  go_wp2_with fail
  go_loopw [6, 5] (fun iv ov wr => ∃ k : Nat, k ≤ n ∧ iv = .int .i64 k ∧ Hid (Own w0 (IntSl ov (keepB B (A.take k)) * R) wr)) (fun iv _ _ => n - (intOf iv).toNat)
  case atStart => exact ⟨0, Nat.zero_le _, rfl, Lib.hid (by rw [List.take_zero]; exact H.out.sl_nil _ _)⟩
  case round =>
    obtain ⟨k, hk, rfl, HO⟩ := hrel
    by_cases hlt : k < n
    rotate_left
    · have ho := HO.out
      rw [List.take_of_length_le (by rw [← HN.out]; omega)] at ho
      have HF := Lib.hid ho
      clear ho
      go_wp2
      go_ret
      exact ⟨_, rfl, HF.out⟩
    have hkl : k < A.length := by rw [← HN.out]; exact hlt
    obtain ⟨a, rfl, hc⟩ := (HA.out.more _ HO.out).at k hkl
    have hbr := HB.out.more _ HO.out
    have hst : keepB B (A.take (k + 1)) = keepB B (A.take k) ++ (if A[k] ∈ B then [A[k]] else []) := by
      rw [List.take_succ_eq_append_getElem hkl]
      unfold keepB
      rw [List.filter_append]
      by_cases hm : A[k] ∈ B <;> simp [hm]
    obtain ⟨x, hx⟩ : ∃ x, x = A[k] := ⟨_, rfl⟩
    obtain ⟨out, hout⟩ : ∃ out, out = keepB B (A.take k) := ⟨_, rfl⟩
    have hol : out.length ≤ k := by rw [hout]; exact Nat.le_trans (List.length_filter_le _ _) (by simp; omega)
    rw [← hx] at hc hst
    rw [← hout] at hst
    have hown := HO.out
    rw [← hout] at hown
    have HOW : Hid (Own w0 (Sl 3 1 u5 out.length (out.map (Value.int .i64)) * R) wr) := Lib.hid hown
    have k0 : (0 : Int) ≤ (k : Int) := by omega
    have kn : (k : Int) < (n : Int) := by omega
    by_cases hin : x ∈ B
    · have hd := decide_eq_true hin
      rw [if_pos hin] at hst
      have HX := Lib.hid hx; have HOUT := Lib.hid hout; have HBR := Lib.hid hbr; have HST := Lib.hid hst; have HOWN := Lib.hid hown; have HIN := Lib.hid hin
      clear hx hout hbr hst hown hin
      go_wp2_with fail
      refine (refIn_any _ B x _ HBR.out).mono ?_
      rintro e w' ⟨rfl, rfl⟩
      rw [hd]
      go_wp2_with (at_builtin; refine wpList_app rfl _ _ 38 rfl 3 1 8 _ info_int Tryd.underlying38 rfl (by decide) rfl (HOW.out.alloc' _) rfl (by rfl) (Rd_lit (by simp) (by unfold maxLen; omega)) (by intro u hu; simp at hu; subst hu; rfl) (by unfold maxLen; omega) (by omega) ?_; intro v' w4 hown; have HN2 : Hid (Own w0 (IntSl v' (keepB B (A.take (k + 1))) * R) w4) := Lib.hid (by rw [HST.out]; exact (hown.perm (show _ = IntSl v' (out ++ [x]) * R by unfold IntSl; simp))); clear hown)
      go_roundw
      case rel => exact ⟨k + 1, by omega, by go_num, HN2⟩
      case measure => simp [intOf]; omega
    · have hd := decide_eq_false hin
      rw [if_neg hin, List.append_nil] at hst
      have HN2 : Hid (Own w0 (IntSl u5 (keepB B (A.take (k + 1))) * R) wr) := Lib.hid (by rw [hst]; exact hown)
      have HX := Lib.hid hx; have HOUT := Lib.hid hout; have HBR := Lib.hid hbr; have HST := Lib.hid hst; have HOWN := Lib.hid hown; have HIN := Lib.hid hin
      clear hx hout hbr hst hown hin
      go_wp2_with fail
      refine (refIn_any _ B x _ HBR.out).mono ?_
      rintro e w' ⟨rfl, rfl⟩
      rw [hd]
      go_wp2_with fail
      go_roundw
      case rel => exact ⟨k + 1, by omega, by go_num, HN2⟩
      case measure => simp [intOf]; omega
def refNextErr (n : Int) (A B : List Int) : Nat := if n = 1000000 then 4 else if memErr B ≠ 0 then memErr B else if mostB A B = false then 8 else 0
theorem nextErr_ref {n : Int} {A B : List Int} (h : viewErr n A = 0) : nextErr n A B = refNextErr n A B := by unfold nextErr refNextErr; rw [if_neg (by simpa using h)]
set_option maxRecDepth 100000 in
set_option maxHeartbeats 4000000 in
theorem refNext_any {w0 w : World} {R : HProp} (n : Int) (va vb : Value) (A B : List Int) (h : Own w0 R w) (hA : Reads w0 R va A) (hB : Reads w0 R vb B) (hlen : A.length ≤ 100000) :
    Calls Tryd.prog 85 #[.agg #[.int .i64 n, va], vb] w fun e w' => e = .returned (.int .i64 (refNextErr n A B : Nat)) ∧ Own w0 R w' := by
  obtain ⟨ad, cap, rfl, hlc, hcap⟩ := (hA _ h).shape
  obtain ⟨b1, hb_b1⟩ : ∃ zz_, zz_ = (w).heap.size := ⟨_, rfl⟩
  obtain ⟨w1, hw_w1⟩ : ∃ zz_, zz_ = (w).alloc (.cells #[.int .i64 n, .slice ad A.length cap] 87 (0, 0)) := ⟨_, rfl⟩
  have h_HO1 := (h).alloc (.cells #[.int .i64 n, .slice ad A.length cap] 87 (0, 0))
  rw [← hb_b1, ← hw_w1] at h_HO1
  have HO1 := Lib.hid h_HO1
  clear h_HO1
  obtain ⟨c0, c1, _⟩ := (show Own w0 (VwO b1 n (.slice ad A.length cap) * R) w1 from HO1.out).vw
  have H := Lib.hid h; have HA := Lib.hid hA; have HB := Lib.hid hB
  clear h hA hB
  by_cases h1 : n = 1000000
  · have hE : refNextErr n A B = 4 := by unfold refNextErr; rw [if_pos h1]
    have t1 : (n == 1000000) = true := by simpa using h1
    have H1 := Lib.hid h1; have HE := Lib.hid hE
    clear h1 hE
    go_enter Tryd.func85, Tryd.ntmps85
    go_upto_region 1 with fail
    rw [← hb_b1, ← hw_w1]
    clear hb_b1 hw_w1
    go_wp2
    go_ret
    exact ⟨by rw [HE.out]; rfl, HO1.out.drop⟩
  have t1 : (n == 1000000) = false := by simpa using h1
  obtain ⟨E, hE⟩ : ∃ E, E = memErr B := ⟨_, rfl⟩
  by_cases h2 : E = 0
  rotate_left
  · have hR : refNextErr n A B = E := by unfold refNextErr; rw [if_neg h1, if_pos (by rw [← hE]; exact h2), hE]
    have t2 : ((E : Int) == 0) = false := by rw [beq_eq_false_iff_ne]; omega
    have H1 := Lib.hid h1; have H2 := Lib.hid h2; have HE := Lib.hid hE; have HR := Lib.hid hR
    clear h1 h2 hE hR
    go_enter Tryd.func85, Tryd.ntmps85
    go_upto_region 1 with fail
    rw [← hb_b1, ← hw_w1]
    clear hb_b1 hw_w1
    go_wp2_with fail
    refine (refHas_any _ B HO1.out HB.out.more).mono ?_
    rintro e w2 ⟨rfl, ho⟩
    rw [← HE.out]
    have HO2 := Lib.hid ho
    clear ho c0 c1
    go_wp2_with fail
    go_quiet (fail)
    go_wp2
    go_ret
    exact ⟨by rw [HR.out]; rfl, (HO2.out.drewN _).drop⟩
  have hR : refNextErr n A B = if mostB A B = false then 8 else 0 := by unfold refNextErr; rw [if_neg h1, if_neg (by rw [← hE]; simpa using h2)]
  obtain ⟨al, hal⟩ : ∃ al, al = A.length := ⟨_, rfl⟩
  obtain ⟨kl, hkl⟩ : ∃ kl, kl = (keepB B A).length := ⟨_, rfl⟩
  have hkal : kl ≤ al := by rw [hkl, hal]; exact List.length_filter_le _ _
  have hmo : mostB A B = !decide (2 * (kl : Int) ≤ (al : Int)) := by
    unfold mostB
    rw [← hal, ← hkl]
    by_cases hh : 2 * (kl : Int) ≤ (al : Int)
    · rw [decide_eq_true hh, decide_eq_false (by omega)]; rfl
    · rw [decide_eq_false hh, decide_eq_true (by omega)]; rfl
  have t2 : ((E : Int) == 0) = true := by rw [beq_iff_eq]; omega
  have hlen2 := hlen
  rw [← hal] at hlen c1 hlc HA HO1
  rw [← hal]
  rw [← hal] at hw_w1
  have H1 := Lib.hid h1; have HE := Lib.hid hE; have HR := Lib.hid hR; have HAL := Lib.hid hal; have HKL := Lib.hid hkl; have HMO := Lib.hid hmo; have HLEN2 := Lib.hid hlen2
  clear h1 hE hR hal hkl hmo hlen2
  subst h2
  go_enter Tryd.func85, Tryd.ntmps85
  go_upto_region 1 with fail
  rw [← hb_b1, ← hw_w1]
  clear hb_b1 hw_w1
  go_wp2_with fail
  refine (refHas_any _ B HO1.out HB.out.more).mono ?_
  rintro e w2 ⟨rfl, ho⟩
  rw [← HE.out]
  have HO2 : Hid (Own w0 (VwO b1 n (.slice ad al cap) * R) w2) := Lib.hid ho
  obtain ⟨c0, c1, _⟩ := HO2.out.vw
  clear ho
  go_wp2_with fail
  refine wp_region_planH 13 [] [(true, 0), (true, 1), (true, 2), (true, 3), (true, 4), (true, 5), (true, 9), (true, 10), (true, 11), (false, 6), (true, 7), (true, 8), (true, 12)] [13] (fun wS => wS.cell? ⟨b1, 1, none⟩ = some (.slice ad al cap)) (by kernel_rfl) (by kernel_rfl) (c1) ?_
  simp only [pickH, pick, List.getElem?_cons_succ, List.getElem?_cons_zero, Option.toList, Option.map_some, List.cons_append, List.nil_append]
  repeat (refine wpPure_step ?_ rfl ?_ ?_; rotate_left; (focus (intro _; first | with_reducible rfl | (go_simp; done) | (go_simp; with_reducible rfl) | rfl)); go_simp)
  refine wpPure_nil ?_
  repeat (first | (refine wpMix_read ?_ rfl ?_ ?_; rotate_left; (focus (intro _ hS; obtain s1 := hS; first | with_reducible rfl | (go_simp; done) | (go_simp; with_reducible rfl) | rfl)); go_simp) | (refine wpMix_readW ?_ ?_ ?_ ?_; rotate_left; (focus (first | rfl | (go_simp; done))); (focus (intro _ hS; obtain s1 := hS; first | with_reducible rfl | (go_simp; done) | (go_simp; with_reducible rfl) | rfl)); go_simp))
  refine wpMix_write (fun K hK => ?_)
  go_simp
  refine (refShared_any _ _ A B HO2.out.drew HA.out.more HB.out.more HLEN2.out).mono ?_
  rintro e w4 ⟨v4, rfl, ho⟩
  obtain ⟨ad4, cap4, hv4, _⟩ := Own.rd ho
  rw [← HKL.out] at hv4
  subst hv4
  obtain ⟨_, y1, _⟩ := (ho.perm (star_left_comm _ _ _)).vw
  have HO4 := Lib.hid ho
  clear ho
  obtain ⟨D, hD⟩ : ∃ D, D = decide (2 * (kl : Int) ≤ (al : Int)) := ⟨_, rfl⟩
  have hwr : IntKind.i64.wrap (2 * (kl : Int)) = 2 * (kl : Int) := by rw [IntKind.wrap_i64]; omega
  refine hK _ _ ⟨y1, ?_⟩
  clear hK K
  go_simp
  repeat (first | (refine wpMix_read ?_ rfl ?_ ?_; rotate_left; (focus (intro _ hS; obtain s1 := hS; first | with_reducible rfl | (go_simp; done) | (go_simp; with_reducible rfl) | rfl)); go_simp) | (refine wpMix_readW ?_ ?_ ?_ ?_; rotate_left; (focus (first | rfl | (go_simp; done))); (focus (intro _ hS; obtain s1 := hS; first | with_reducible rfl | (go_simp; done) | (go_simp; with_reducible rfl) | rfl)); go_simp))
  refine wpMix_nil ?_
  by_cases hle : 2 * (kl : Int) ≤ (al : Int)
  · have td : decide (2 * (kl : Int) ≤ (al : Int)) = true := decide_eq_true hle
    have hE8 : refNextErr n A B = 8 := by rw [HR.out, HMO.out, td]; rfl
    have HLE := Lib.hid hle; have HE8 := Lib.hid hE8; have HD := Lib.hid hD
    clear hle hE8 hD
    go_wp2_with fail
    refine NoPanic.normal ?_
    go_wp2
    go_ret
    exact ⟨by rw [HE8.out]; rfl, HO4.out.drop.drop⟩
  · have td : decide (2 * (kl : Int) ≤ (al : Int)) = false := decide_eq_false hle
    have hE8 : refNextErr n A B = 0 := by rw [HR.out, HMO.out, td]; rfl
    have HLE := Lib.hid hle; have HE8 := Lib.hid hE8; have HD := Lib.hid hD
    clear hle hE8 hD
    go_wp2_with fail
    refine NoPanic.normal ?_
    go_wp2
    go_ret
    exact ⟨by rw [HE8.out]; rfl, HO4.out.drop.drop⟩
set_option maxRecDepth 100000 in
set_option maxHeartbeats 4000000 in
theorem sameView_any {w0 w : World} {R : HProp} (n m : Int) (va vb : Value) (A B : List Int) (h : Own w0 R w) (hA : Reads w0 R va A) (hB : Reads w0 R vb B) :
    Calls Tryd.prog 39 #[.agg #[.int .i64 n, va], .agg #[.int .i64 m, vb]] w fun e w' => e = .returned (.bool (decide (n = m) && (A == B))) ∧ Own w0 R w' := by
  obtain ⟨ad, acap, rfl, _, _⟩ := (hA _ h).shape
  obtain ⟨bd, bcap, rfl, _, _⟩ := (hB _ h).shape
  obtain ⟨o1, ho1⟩ : ∃ o, o = Obj.cells #[.int .i64 n, .slice ad A.length acap] 87 (0, 0) := ⟨_, rfl⟩
  obtain ⟨o2, ho2⟩ : ∃ o, o = Obj.cells #[.int .i64 m, .slice bd B.length bcap] 87 (0, 0) := ⟨_, rfl⟩
  obtain ⟨b1, hb1⟩ : ∃ c, c = w.heap.size := ⟨_, rfl⟩
  obtain ⟨b2, hb2⟩ : ∃ c, c = (w.alloc o1).heap.size := ⟨_, rfl⟩
  obtain ⟨w2, hw2⟩ : ∃ c, c = (w.alloc o1).alloc o2 := ⟨_, rfl⟩
  have hb2' : w.heap.size + 1 = b2 := by rw [hb2]; simp
  have h2 := (h.alloc o1).alloc o2
  rw [← hb1, ← hb2, ← hw2, ho1, ho2] at h2
  have HV2 : Hid (Own w0 (VwO b2 m (.slice bd B.length bcap) * (VwO b1 n (.slice ad A.length acap) * R)) w2) := Lib.hid h2
  obtain ⟨d0, d1, _⟩ := HV2.out.vw
  obtain ⟨c0, c1, _⟩ := (HV2.out.perm (star_left_comm _ _ _)).vw
  have hra := hA.more.more _ HV2.out
  have hrb := hB.more.more _ HV2.out
  have H := Lib.hid h; have HA := Lib.hid hA; have HB := Lib.hid hB; have HRA := Lib.hid hra; have HRB := Lib.hid hrb
  clear h hA hB hra hrb
  clear h2 hb2
  by_cases h1 : n = m
  · have t1 : (n == m) = true := by simpa using h1
    have hd := decide_eq_true h1
    have H1 := Lib.hid h1; have HD := Lib.hid hd
    clear h1 hd
    go_enter Tryd.func39, Tryd.ntmps39
    go_upto_region 1 with fail
    rw [← hb1, ← ho1, ← ho2, ← hw2]
    clear hb2' hb1 ho1 ho2 hw2
    go_wp2_with fail
    refine (sameInts_any _ _ A B _ HRA.out HRB.out).mono ?_
    rintro e w' ⟨rfl, nq, rfl⟩
    obtain ⟨z, hz⟩ : ∃ z, z = (A == B) := ⟨_, rfl⟩
    rw [← hz]
    have HZ := Lib.hid hz
    clear hz
    go_wp2
    go_ret
    exact ⟨by rw [HD.out, HZ.out]; rfl, (HV2.out.drewN _).drop.drop⟩
  · have t1 : (n == m) = false := by simpa using h1
    have hd := decide_eq_false h1
    have H1 := Lib.hid h1; have HD := Lib.hid hd
    clear h1 hd
    go_enter Tryd.func39, Tryd.ntmps39
    go_upto_region 1 with fail
    rw [← hb1, ← ho1, ← ho2, ← hw2]
    clear hb2' hb1 ho1 ho2 hw2
    go_wp2
    go_ret
    exact ⟨by rw [HD.out]; rfl, HV2.out.drop.drop⟩
end Go.Proofs.YtpgonkecicmanaaDoor
/- The reference's Flush as it lies in memory; Check. -/
namespace Go.Proofs.YtpgonkecicmanaaDoor
set_option linter.unusedVariables false
set_option linter.unusedSimpArgs false
open Go.RowKit Go.Maps
structure RfC (cs : Array Value) (hv sv dv : Value) (n : Int) (all : List Int) : Prop where
  size : cs.size = 35
  n : cs[0]? = some (.int .i64 n)
  has : cs[1]? = some hv
  was : ∀ w : Nat, w < 31 → cs[2 + w]? = some (.bool (decide ((w : Int) ∈ all)))
  said : cs[33]? = some sv
  heard : cs[34]? = some dv
theorem fset_at {cs : Array Value} {i : Nat} (v : Value) (h : i < cs.size) : (cs.setIfInBounds i v)[i]? = some v := by
  rw [Array.getElem?_setIfInBounds, if_pos rfl, if_pos h]
theorem fset_off {cs : Array Value} {i j : Nat} (v : Value) (h : i ≠ j) : (cs.setIfInBounds i v)[j]? = cs[j]? := by
  rw [Array.getElem?_setIfInBounds, if_neg h]
section
variable {cs : Array Value} {hv sv dv : Value} {n : Int} {all : List Int}
theorem RfC.setWas (h : RfC cs hv sv dv n all) {w : Nat} (hw : w < 31) : RfC (cs.setIfInBounds (2 + w) (.bool true)) hv sv dv n (setPut all (w : Int)) where
  size := by rw [Array.size_setIfInBounds]; exact h.size
  n := by rw [fset_off _ (by omega)]; exact h.n
  has := by rw [fset_off _ (by omega)]; exact h.has
  was := fun v hv' => by
    by_cases e : v = w
    · subst e; rw [fset_at _ (by rw [h.size]; omega), decide_eq_true (mem_setPut.2 (.inr rfl))]
    · rw [fset_off _ (by omega), h.was v hv']
      congr 2
      refine decide_eq_decide.2 ?_
      rw [mem_setPut]
      exact ⟨.inl, fun h => h.resolve_right (by omega)⟩
  said := by rw [fset_off _ (by omega)]; exact h.said
  heard := by rw [fset_off _ (by omega)]; exact h.heard
theorem RfC.setN (h : RfC cs hv sv dv n all) (x : Int) : RfC (cs.setIfInBounds 0 (.int .i64 x)) hv sv dv x all where
  size := by rw [Array.size_setIfInBounds]; exact h.size
  n := by rw [fset_at _ (by rw [h.size]; omega)]
  has := by rw [fset_off _ (by omega)]; exact h.has
  was := fun v hv' => by rw [fset_off _ (by omega)]; exact h.was v hv'
  said := by rw [fset_off _ (by omega)]; exact h.said
  heard := by rw [fset_off _ (by omega)]; exact h.heard
theorem RfC.setHas (h : RfC cs hv sv dv n all) (x : Value) : RfC (cs.setIfInBounds 1 x) x sv dv n all where
  size := by rw [Array.size_setIfInBounds]; exact h.size
  n := by rw [fset_off _ (by omega)]; exact h.n
  has := by rw [fset_at _ (by rw [h.size]; omega)]
  was := fun v hv' => by rw [fset_off _ (by omega)]; exact h.was v hv'
  said := by rw [fset_off _ (by omega)]; exact h.said
  heard := by rw [fset_off _ (by omega)]; exact h.heard
theorem RfC.setSaid (h : RfC cs hv sv dv n all) (x : Value) : RfC (cs.setIfInBounds 33 x) hv x dv n all where
  size := by rw [Array.size_setIfInBounds]; exact h.size
  n := by rw [fset_off _ (by omega)]; exact h.n
  has := by rw [fset_off _ (by omega)]; exact h.has
  was := fun v hv' => by rw [fset_off _ (by omega)]; exact h.was v hv'
  said := by rw [fset_at _ (by rw [h.size]; omega)]
  heard := by rw [fset_off _ (by omega)]; exact h.heard
theorem RfC.setHeard (h : RfC cs hv sv dv n all) (x : Value) : RfC (cs.setIfInBounds 34 x) hv sv x n all where
  size := by rw [Array.size_setIfInBounds]; exact h.size
  n := by rw [fset_off _ (by omega)]; exact h.n
  has := by rw [fset_off _ (by omega)]; exact h.has
  was := fun v hv' => by rw [fset_off _ (by omega)]; exact h.was v hv'
  said := by rw [fset_off _ (by omega)]; exact h.said
  heard := by rw [fset_at _ (by rw [h.size]; omega)]
end
/-- The rows of all views, five a view. -/
structure RfRows (N : Nat) (rows : List (Value × List Int)) (s : Fl) : Prop where
  len : rows.length = (N + 1) * 5
  at_ : ∀ k m : Nat, k ≤ N → m < 5 → (rows[k * 5 + m]?).map (·.2) = some (flRow s ((k : Int), (m : Int)))
theorem RfRows.get {N : Nat} {rows : List (Value × List Int)} {s : Fl} (h : RfRows N rows s) {k m : Nat} (hk : k ≤ N) (hm : m < 5) : ∃ hl : k * 5 + m < rows.length, rows[k * 5 + m].2 = flRow s ((k : Int), (m : Int)) := by
  have hl : k * 5 + m < rows.length := by rw [h.len]; omega
  have h1 := h.at_ k m hk hm
  rw [List.getElem?_eq_getElem hl] at h1
  exact ⟨hl, Option.some.inj h1⟩
abbrev rfBlk (q : Nat) (cs : Array Value) : HProp := blk q (.cells cs 90 (0, 0))
abbrev dSl (dv : Value) (N : Nat) (rows : List (Value × List Int)) : HProp := Sl 39 5 dv (N + 1) (rows.map (·.1))
abbrev dAt (db off dc N : Nat) (rows : List (Value × List Int)) : HProp := SlAt 39 5 db off (N + 1) dc (rows.map (·.1))
structure RfIs (cs : Array Value) (hv sv dv : Value) (N : Nat) (rows : List (Value × List Int)) (s : Fl) : Prop where
  n : s.n = (N : Int)
  c : RfC cs hv sv dv s.n s.all
  r : RfRows N rows s
def RfO (q : Nat) (cs : Array Value) (hv sv dv : Value) (N : Nat) (rows : List (Value × List Int)) (s : Fl) : HProp := rfBlk q cs * (IntSl hv s.has * (IntSl sv s.said * (dSl dv N rows * starL rowP rows)))
def RfP (q : Nat) (s : Fl) : HProp := hex fun (x : (Array Value × Value × Value × Value) × Nat × List (Value × List Int)) => pur (RfIs x.1.1 x.1.2.1 x.1.2.2.1 x.1.2.2.2 x.2.1 x.2.2 s) * RfO q x.1.1 x.1.2.1 x.1.2.2.1 x.1.2.2.2 x.2.1 x.2.2 s
theorem Own.rf_open {w0 w : World} {q : Nat} {s : Fl} {R : HProp} (h : Own w0 (RfP q s * R) w) : ∃ cs hv sv dv N rows, RfIs cs hv sv dv N rows s ∧ Own w0 (rfBlk q cs * (IntSl hv s.has * (IntSl sv s.said * (dSl dv N rows * (starL rowP rows * R))))) w := by
  obtain ⟨⟨⟨cs, hv, sv, dv⟩, N, rows⟩, h⟩ := Own.ex h
  rw [star_assoc] at h
  obtain ⟨he, h⟩ := Own.pur_out h
  exact ⟨cs, hv, sv, dv, N, rows, he, h.perm (by unfold RfO; dsimp only; ac_rfl)⟩
theorem Own.rf_close {w0 w : World} {q : Nat} {cs : Array Value} {hv sv dv : Value} {N : Nat} {rows : List (Value × List Int)} {s : Fl} {R : HProp} (he : RfIs cs hv sv dv N rows s) (h : Own w0 (rfBlk q cs * (IntSl hv s.has * (IntSl sv s.said * (dSl dv N rows * (starL rowP rows * R))))) w) : Own w0 (RfP q s * R) w := by
  refine Own.ex_mk ((cs, hv, sv, dv), N, rows) ?_
  rw [star_assoc]
  refine Own.pur_mk he (h.perm ?_)
  unfold RfO
  dsimp only
  ac_rfl
section
variable {w0 w : World} {q : Nat} {cs : Array Value} {hv sv dv : Value} {n : Int} {all : List Int} {R : HProp}
theorem Own.rf_cells (he : RfC cs hv sv dv n all) (h : Own w0 (rfBlk q cs * R) w) :
    w.cell? ⟨q, 0, none⟩ = some (.int .i64 n) ∧ w.cell? ⟨q, 1, none⟩ = some hv ∧ w.cell? ⟨q, 33, none⟩ = some sv ∧ w.cell? ⟨q, 34, none⟩ = some dv ∧ (∀ v : Nat, v < 31 → w.cell? ⟨q, 2 + v, none⟩ = some (.bool (decide ((v : Int) ∈ all)))) ∧ ∀ i t, w.frozen? ⟨q, i, t⟩ = false :=
  ⟨by rw [Own.cell h]; exact he.n, by rw [Own.cell h]; exact he.has, by rw [Own.cell h]; exact he.said, by rw [Own.cell h]; exact he.heard, fun v hv => by rw [Own.cell h]; exact he.was v hv, fun i t => Own.free h i t⟩
/-- The table of rows: where it lies. -/
theorem Own.rf_at {N : Nat} {rows : List (Value × List Int)} (hl : rows.length = (N + 1) * 5) (h : Own w0 (dSl dv N rows * R) w) : ∃ db off dc, dv = .slice (some ⟨db, off, none⟩) (N + 1) dc ∧ Own w0 (dAt db off dc N rows * R) w :=
  h.slAt (by rw [List.length_map, hl]; omega)
theorem Own.rf_tab {db off dc N : Nat} {rows : List (Value × List Int)} (h : Own w0 (dAt db off dc N rows * R) w) : N + 1 ≤ dc ∧ dc ≤ maxLen ∧ (∀ (i : Nat) r, rows[i]? = some r → w.cell? ⟨db, off + i, none⟩ = some r.1) ∧ (∀ i t, w.frozen? ⟨db, i, t⟩ = false) := by
  obtain ⟨h1, h2, _, h4, h5, _⟩ := h.slAt_facts
  exact ⟨h1, h2, fun i r hr => h4 i r.1 (by rw [List.getElem?_map, hr]; rfl), h5⟩
theorem Own.rf_tabset {db off dc N : Nat} {rows : List (Value × List Int)} {i : Nat} (hi : i < rows.length) (v : Value) (l : List Int) (h : Own w0 (dAt db off dc N rows * R) w) : Own w0 (dAt db off dc N (rows.set i (v, l)) * R) (w.setCell ⟨db, off + i, none⟩ v) := by
  have h1 := h.slAt_set i v (by rw [List.length_map]; exact hi)
  have e : (rows.map (·.1)).set i v = (rows.set i (v, l)).map (·.1) := by rw [List.map_set]
  rw [e] at h1
  exact h1
/-- One row out. -/
theorem Own.rf_take {rows : List (Value × List Int)} {i : Nat} (hi : i < rows.length) (h : Own w0 (starL rowP rows * R) w) :
    ∃ ad cap, rows[i] = (.slice ad rows[i].2.length cap, rows[i].2) ∧ Own w0 (IntSl (.slice ad rows[i].2.length cap) rows[i].2 * (starL rowP (rows.eraseIdx i) * R)) w := by
  rw [starL_split rowP rows i hi] at h
  have h4 : Own w0 (IntSl rows[i].1 rows[i].2 * (starL rowP (rows.eraseIdx i) * R)) w := h.perm (by unfold rowP; ac_rfl)
  obtain ⟨ad, cap, hs⟩ := Own.int_shape h4
  refine ⟨ad, cap, Prod.ext hs rfl, ?_⟩
  rw [hs] at h4
  exact h4
theorem rf_put {rows : List (Value × List Int)} {i : Nat} {v : Value} {l : List Int} (hi : i < rows.length) (h : Own w0 (IntSl v l * (starL rowP (rows.eraseIdx i) * R)) w) : Own w0 (starL rowP (rows.set i (v, l)) * R) w := by
  rw [starL_set rowP rows i hi]
  refine h.perm ?_
  unfold rowP
  ac_rfl
end
theorem RfRows.hear {N : Nat} {rows : List (Value × List Int)} {s : Fl} (h : RfRows N rows s) (hn : s.n = (N : Int)) {m : Nat} (hm : m < 5) (w : Int) (v : Value) : RfRows N (rows.set (N * 5 + m) (v, flRow s ((N : Int), (m : Int)) ++ [w])) (flHear s (m : Int) w) where
  len := by rw [List.length_set]; exact h.len
  at_ := fun k j hk hj => by
    rw [flRow_hear, hn, List.getElem?_set]
    by_cases e : k = N ∧ j = m
    · obtain ⟨rfl, rfl⟩ := e
      rw [if_pos rfl, if_pos (by rw [h.len]; omega), if_pos rfl]; rfl
    · rw [if_neg (by omega), h.at_ k j hk hj, if_neg]
      intro hc
      have h1 := congrArg Prod.fst hc
      have h2 := congrArg Prod.snd hc
      simp only at h1 h2
      omega
theorem member_nat {x : Int} (h : isMember x = true) : ∃ m : Nat, x = (m : Int) ∧ m < 5 := by
  simp [isMember] at h
  exact ⟨x.toNat, by omega, by omega⟩
set_option maxRecDepth 100000 in
set_option maxHeartbeats 4000000 in
theorem rfCheck_any {w0 w : World} {R : HProp} (q : Nat) (s : Fl) (who word : Int) (hok : flOk s) (h : Own w0 (RfP q s * R) w) :
    Calls Tryd.prog 81 #[.pointer (some ⟨q, 0, none⟩), .int .i64 who, .int .i64 word] w fun e w' => e = .returned (.int .i64 (flChk s who word : Nat)) ∧ w = w' := by
  obtain ⟨cs, hv, sv, dv, N, rows, he, ho⟩ := h.rf_open
  obtain ⟨_, c1, _⟩ := ho.rf_cells he.c
  obtain ⟨ad, cap, hs⟩ := Own.int_shape ho.second
  have HRD : Hid (Ints w hv s.has) := Lib.hid (IntSl_reads hok.2.1.2 _ ho.second)
  obtain ⟨E, hE⟩ : ∃ E, E = flChk s who word := ⟨_, rfl⟩
  rw [← hE]
  unfold flChk at hE
  rw [hs] at c1 HRD
  obtain ⟨L, hL⟩ : ∃ L, L = s.has.length := ⟨_, rfl⟩
  rw [← hL] at c1
  rw [← hL] at HRD
  clear hs
  by_cases hb : isMember who = true ∧ isWord word = true
  rotate_left
  · have hE1 : E = 1 := by
      rw [hE]
      cases h1 : isMember who
      · rfl
      cases h2 : isWord word
      · rfl
      exact absurd ⟨h1, h2⟩ hb
    have hcs : who < 0 ∨ (¬ who < 0 ∧ 4 < who) ∨ (¬ who < 0 ∧ ¬ 4 < who ∧ word < 1) ∨ (¬ who < 0 ∧ ¬ 4 < who ∧ ¬ word < 1 ∧ 30 < word) := by
      simp [isMember, isWord] at hb; omega
    subst hE1
    clear hE
    have H := Lib.hid h; have HO := Lib.hid ho; have HE := Lib.hid he; have HB := Lib.hid hb; have HOK := Lib.hid hok; have HL := Lib.hid hL
    clear h ho he hb hok hL
    rcases hcs with h1 | ⟨h1, h2⟩ | ⟨h1, h2, h3⟩ | ⟨h1, h2, h3, h4⟩
    all_goals
      go_enter Tryd.func81, Tryd.ntmps81
      go_wp2
      go_ret
      exact ⟨rfl, rfl⟩
  obtain ⟨hin, hwd⟩ := hb
  rw [hin, hwd, if_neg (by simp), if_neg (by simp)] at hE
  have hib : 0 ≤ who ∧ who < 5 := by simpa [isMember] using hin
  have hwb : 1 ≤ word ∧ word ≤ 30 := by simpa [isWord] using hwd
  have t1 : ¬ who < 0 := by omega
  have t2 : ¬ 4 < who := by omega
  have t3 : ¬ word < 1 := by omega
  have t4 : ¬ 30 < word := by omega
  obtain ⟨D, hD⟩ : ∃ D, D = decide (who ∈ s.has) := ⟨_, rfl⟩
  rw [← hD] at hE
  have HIN := Lib.hid (refIn_any (.slice ad L cap) s.has who w HRD.out)
  rw [← hD] at HIN
  have H := Lib.hid h; have HO := Lib.hid ho; have HE := Lib.hid he; have HIN := Lib.hid hin; have HWD := Lib.hid hwd; have HD := Lib.hid hD; have HOK := Lib.hid hok; have HL := Lib.hid hL
  clear h ho he hin hwd hD hok hL
  cases D
  · rw [if_pos rfl] at hE
    subst hE
    go_enter Tryd.func81, Tryd.ntmps81
    go_wp2_with fail
    refine HIN.out.mono ?_
    rintro e w' ⟨rfl, rfl⟩
    go_wp2
    go_ret
    exact ⟨rfl, rfl⟩
  · rw [if_neg (by simp)] at hE
    subst hE
    go_enter Tryd.func81, Tryd.ntmps81
    go_wp2_with fail
    refine HIN.out.mono ?_
    rintro e w' ⟨rfl, rfl⟩
    go_wp2
    go_ret
    exact ⟨rfl, rfl⟩
end Go.Proofs.YtpgonkecicmanaaDoor
