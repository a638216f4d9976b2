/- Contracts of the reference: what is wrong with a view; who is shared; the next view. -/
import Derived.Test.YtpgonkecicmanaaDoorMPicturePlays8
import Derived.Test.YtpgonkecicmanaaDoorMPicturePlays5
import Derived.Test.YtpgonkecicmanaaDoorMPicturePlays6
import Derived.Test.YtpgonkecicmanaaDoorMPicturePlays3
import Derived.Test.YtpgonkecicmanaaDoorMPicturePlays4
import Derived.Test.YtpgonkecicmanaaDoorMPicturePlays7
namespace Go.Proofs.YtpgonkecicmanaaDoor
set_option linter.unusedVariables false
set_option linter.unusedSimpArgs false
open Go.RowKit
theorem memGo_cons (p x : Int) (r : List Int) : memGo p (x :: r) = if isMember x = false then 1 else if x ≤ p then 3 else memGo x r := rfl
def prevOf (l : List Int) (k : Nat) : Int := if k = 0 then -1 else l.getD (k - 1) 0
set_option maxRecDepth 100000 in
set_option maxHeartbeats 4000000 in
theorem refHas_any {w0 w : World} {R : HProp} (v : Value) (l : List Int) (h : Own w0 R w) (hl : Reads w0 R v l) :
    Calls Tryd.prog 114 #[v] w fun e w' => e = .returned (.int .i64 (memErr l : Nat)) ∧ Own w0 R w' := by
  obtain ⟨ad, cap, rfl, hlc, hcap⟩ := (hl _ h).shape
  obtain ⟨n, hn⟩ : ∃ n, n = l.length := ⟨_, rfl⟩
  rw [← hn] at hlc hl ⊢
  by_cases h0 : n = 0
  · have hE : memErr l = 5 := by unfold memErr; rw [if_pos (List.eq_nil_of_length_eq_zero (by omega))]
    subst h0
    have H := Lib.hid h; have HL := Lib.hid hl; have HN := Lib.hid hn; have HE := Lib.hid hE
    clear h hl hn hE
    go_enter Tryd.func114, Tryd.ntmps114
    go_wp2
    go_ret
    exact ⟨by rw [HE.out]; rfl, H.out⟩
  have hE : memErr l = memGo (-1) l := by unfold memErr; rw [if_neg (by intro e; rw [e] at hn; exact h0 hn)]
  have t0 : ((n : Int) == 0) = false := by rw [beq_eq_false_iff_ne]; omega
  have H := Lib.hid h; have HL := Lib.hid hl; have HN := Lib.hid hn; have HE := Lib.hid hE
  clear h hl hn hE
  go_enter Tryd.func114, Tryd.ntmps114
  go_wp2_with fail
  go_loopw [3] (fun iv wr => ∃ k : Nat, k ≤ n ∧ iv = .int .i64 k ∧ Hid (memGo (prevOf l k) (l.drop k) = memErr l) ∧ Hid (0 < k → 0 ≤ prevOf l k) ∧ Hid (Own w0 R wr)) (fun iv _ => n - (intOf iv).toNat)
  case atStart => exact ⟨0, Nat.zero_le _, rfl, Lib.hid HE.out.symm, Lib.hid (fun h => by omega), H⟩
  case round =>
    obtain ⟨k, hk, rfl, HM, HP, HO⟩ := hrel
    by_cases hlt : k < n
    rotate_left
    · have hfin : memErr l = 0 := by
        have := HM.out
        rw [List.drop_of_length_le (by rw [← HN.out]; omega)] at this
        rw [← this]; rfl
      have HFIN := Lib.hid hfin
      clear hfin
      go_wp2
      go_ret
      exact ⟨by rw [HFIN.out]; rfl, HO.out⟩
    have hkl : k < l.length := by rw [← HN.out]; exact hlt
    obtain ⟨a, rfl, hc⟩ := (HL.out _ HO.out).at k hkl
    obtain ⟨x, hx⟩ : ∃ x, x = l[k] := ⟨_, rfl⟩
    rw [← hx] at hc
    have hg := HM.out
    rw [List.drop_eq_getElem_cons hkl, ← hx, memGo_cons] at hg
    have hpn : prevOf l (k + 1) = x := by unfold prevOf; rw [if_neg (by omega), Nat.add_sub_cancel, List.getD_eq_getElem?_getD, List.getElem?_eq_getElem hkl, ← hx]; rfl
    have k0 : (0 : Int) ≤ (k : Int) := by omega
    have kn : (k : Int) < (n : Int) := by omega
    by_cases h1 : x < 0
    · have hE1 : memErr l = 1 := by rw [← hg, if_pos (by simp [isMember]; omega)]
      have t1 : decide (x < 0) = true := by simpa using h1
      have HX := Lib.hid hx; have HG := Lib.hid hg; have HPN := Lib.hid hpn; have H1 := Lib.hid h1; have HE1 := Lib.hid hE1
      clear hx hg hpn h1 hE1
      go_wp2
      go_ret
      exact ⟨by rw [HE1.out]; rfl, HO.out⟩
    have t1 : decide (x < 0) = false := by simpa using h1
    by_cases h2 : 4 < x
    · have hE1 : memErr l = 1 := by rw [← hg, if_pos (by simp [isMember]; omega)]
      have t2 : decide (4 < x) = true := by simpa using h2
      have HX := Lib.hid hx; have HG := Lib.hid hg; have HPN := Lib.hid hpn; have H1 := Lib.hid h1; have H2 := Lib.hid h2; have HE1 := Lib.hid hE1
      clear hx hg hpn h1 h2 hE1
      go_wp2
      go_ret
      exact ⟨by rw [HE1.out]; rfl, HO.out⟩
    have t2 : decide (4 < x) = false := by simpa using h2
    rw [if_neg (by simp [isMember]; omega)] at hg
    by_cases hz : k = 0
    · have hp0 : prevOf l k = -1 := by unfold prevOf; rw [if_pos hz]
      rw [hp0, if_neg (by omega), ← hpn] at hg
      have hg2 : memGo (prevOf l (k + 1)) (l.drop (k + 1)) = memErr l := hg
      have hx0 : 0 ≤ prevOf l (k + 1) := by rw [hpn]; omega
      have t3 : decide ((0 : Int) < (k : Int)) = false := decide_eq_false (by omega)
      have t3n : decide (0 < k) = false := decide_eq_false (by omega)
      have HX := Lib.hid hx; have HG := Lib.hid hg; have HPN := Lib.hid hpn; have H1 := Lib.hid h1; have H2 := Lib.hid h2; have HP0 := Lib.hid hp0; have HG2 := Lib.hid hg2; have HX0 := Lib.hid hx0; have HZ := Lib.hid hz
      clear hx hg hpn h1 h2 hp0 hg2 hx0 hz
      go_wp2_with fail
      go_quiet (fail)
      go_wp2_with fail
      go_roundw
      case rel => exact ⟨k + 1, by omega, by go_num, HG2, Lib.hid (fun _ => HX0.out), Lib.hid (HO.out.drewN _)⟩
      case measure => simp [intOf]; omega
    · obtain ⟨j, hj⟩ : ∃ j, k = j + 1 := ⟨k - 1, by omega⟩
      obtain ⟨a', ha', hc2⟩ := (HL.out _ HO.out).at j (by omega)
      cases ha'
      have hjl : j < l.length := by omega
      obtain ⟨y, hc3, hy⟩ : ∃ y, wr.cell? (a.add j) = some (.int .i64 y) ∧ y = l.getD j 0 := ⟨l[j], hc2, by rw [List.getD_eq_getElem?_getD, List.getElem?_eq_getElem hjl]; rfl⟩
      clear hc2 hjl
      have hp1 : prevOf l k = y := by unfold prevOf; rw [if_neg (by omega), show k - 1 = j by omega, hy]
      rw [hp1] at hg
      have t3 : decide ((0 : Int) < (k : Int)) = true := decide_eq_true (by omega)
      have t3n : decide (0 < k) = true := decide_eq_true (by omega)
      have tj : (k : Int) - 1 = (j : Int) := by omega
      have j0 : (0 : Int) ≤ (j : Int) := by omega
      have jn : (j : Int) < (n : Int) := by omega
      by_cases h3 : x ≤ y
      · have t4 : decide (x ≤ y) = true := by simpa using h3
        rw [if_pos h3] at hg
        have HX := Lib.hid hx; have HG := Lib.hid hg; have HPN := Lib.hid hpn; have H1 := Lib.hid h1; have H2 := Lib.hid h2; have H3 := Lib.hid h3; have HP1 := Lib.hid hp1; have HY := Lib.hid hy; have HZ := Lib.hid hz; have HJ := Lib.hid hj
        clear hx hg hpn h1 h2 h3 hp1 hy hz hj
        go_wp2_with fail
        go_quiet (fail)
        go_wp2_with fail
        go_ret
        exact ⟨by rw [← HG.out]; rfl, HO.out.drewN _⟩
      · have t4 : decide (x ≤ y) = false := by simpa using h3
        rw [if_neg h3, ← hpn] at hg
        have hx0 : 0 ≤ prevOf l (k + 1) := by rw [hpn]; omega
        have HX := Lib.hid hx; have HG := Lib.hid hg; have HPN := Lib.hid hpn; have H1 := Lib.hid h1; have H2 := Lib.hid h2; have H3 := Lib.hid h3; have HP1 := Lib.hid hp1; have HY := Lib.hid hy; have HX0 := Lib.hid hx0; have HZ := Lib.hid hz; have HJ := Lib.hid hj
        clear hx hg hpn h1 h2 h3 hp1 hy hx0 hz hj
        go_wp2_with fail
        go_quiet (fail)
        go_wp2_with fail
        go_roundw
        case rel => exact ⟨k + 1, by omega, by go_num, HG, Lib.hid (fun _ => HX0.out), Lib.hid (HO.out.drewN _)⟩
        case measure => simp [intOf]; omega
set_option maxRecDepth 100000 in
set_option maxHeartbeats 4000000 in
theorem refShared_any {w0 w : World} {R : HProp} (va vb : Value) (A B : List Int) (h : Own w0 R w) (hA : Reads w0 R va A) (hB : Reads w0 R vb B) (hlen : A.length ≤ 100000) :
    Calls Tryd.prog 86 #[va, vb] w fun e w' => ∃ v', e = .returned v' ∧ Own w0 (IntSl v' (keepB B A) * R) w' := by
  obtain ⟨ad, cap, rfl, hlc, hcap⟩ := (hA _ h).shape
  obtain ⟨n, hn⟩ : ∃ n, n = A.length := ⟨_, rfl⟩
  rw [← hn] at hlc hA hlen ⊢
  have H := Lib.hid h; have HA := Lib.hid hA; have HB := Lib.hid hB; have HN := Lib.hid hn
  clear h hA hB hn
  go_enter Tryd.func86, Tryd.ntmps86
  go_wp2_with fail
  go_loopw [6, 5] (fun iv ov wr => ∃ k : Nat, k ≤ n ∧ iv = .int .i64 k ∧ Hid (Own w0 (IntSl ov (keepB B (A.take k)) * R) wr)) (fun iv _ _ => n - (intOf iv).toNat)
  case atStart => exact ⟨0, Nat.zero_le _, rfl, Lib.hid (by rw [List.take_zero]; exact H.out.sl_nil _ _)⟩
  case round =>
    obtain ⟨k, hk, rfl, HO⟩ := hrel
    by_cases hlt : k < n
    rotate_left
    · have ho := HO.out
      rw [List.take_of_length_le (by rw [← HN.out]; omega)] at ho
      have HF := Lib.hid ho
      clear ho
      go_wp2
      go_ret
      exact ⟨_, rfl, HF.out⟩
    have hkl : k < A.length := by rw [← HN.out]; exact hlt
    obtain ⟨a, rfl, hc⟩ := (HA.out.more _ HO.out).at k hkl
    have hbr := HB.out.more _ HO.out
    have hst : keepB B (A.take (k + 1)) = keepB B (A.take k) ++ (if A[k] ∈ B then [A[k]] else []) := by
      rw [List.take_succ_eq_append_getElem hkl]
      unfold keepB
      rw [List.filter_append]
      by_cases hm : A[k] ∈ B <;> simp [hm]
    obtain ⟨x, hx⟩ : ∃ x, x = A[k] := ⟨_, rfl⟩
    obtain ⟨out, hout⟩ : ∃ out, out = keepB B (A.take k) := ⟨_, rfl⟩
    have hol : out.length ≤ k := by rw [hout]; exact Nat.le_trans (List.length_filter_le _ _) (by simp; omega)
    rw [← hx] at hc hst
    rw [← hout] at hst
    have hown := HO.out
    rw [← hout] at hown
    have HOW : Hid (Own w0 (Sl 3 1 u5 out.length (out.map (Value.int .i64)) * R) wr) := Lib.hid hown
    have k0 : (0 : Int) ≤ (k : Int) := by omega
    have kn : (k : Int) < (n : Int) := by omega
    by_cases hin : x ∈ B
    · have hd := decide_eq_true hin
      rw [if_pos hin] at hst
      have HX := Lib.hid hx; have HOUT := Lib.hid hout; have HBR := Lib.hid hbr; have HST := Lib.hid hst; have HOWN := Lib.hid hown; have HIN := Lib.hid hin
      clear hx hout hbr hst hown hin
      go_wp2_with fail
      refine (refIn_any _ B x _ HBR.out).mono ?_
      rintro e w' ⟨rfl, rfl⟩
      rw [hd]
      go_wp2_with (at_builtin; refine wpList_app rfl _ _ 38 rfl 3 1 8 _ info_int Tryd.underlying38 rfl (by decide) rfl (HOW.out.alloc' _) rfl (by rfl) (Rd_lit (by simp) (by unfold maxLen; omega)) (by intro u hu; simp at hu; subst hu; rfl) (by unfold maxLen; omega) (by omega) ?_; intro v' w4 hown; have HN2 : Hid (Own w0 (IntSl v' (keepB B (A.take (k + 1))) * R) w4) := Lib.hid (by rw [HST.out]; exact (hown.perm (show _ = IntSl v' (out ++ [x]) * R by unfold IntSl; simp))); clear hown)
      go_roundw
      case rel => exact ⟨k + 1, by omega, by go_num, HN2⟩
      case measure => simp [intOf]; omega
    · have hd := decide_eq_false hin
      rw [if_neg hin, List.append_nil] at hst
      have HN2 : Hid (Own w0 (IntSl u5 (keepB B (A.take (k + 1))) * R) wr) := Lib.hid (by rw [hst]; exact hown)
      have HX := Lib.hid hx; have HOUT := Lib.hid hout; have HBR := Lib.hid hbr; have HST := Lib.hid hst; have HOWN := Lib.hid hown; have HIN := Lib.hid hin
      clear hx hout hbr hst hown hin
      go_wp2_with fail
      refine (refIn_any _ B x _ HBR.out).mono ?_
      rintro e w' ⟨rfl, rfl⟩
      rw [hd]
      go_wp2_with fail
      go_roundw
      case rel => exact ⟨k + 1, by omega, by go_num, HN2⟩
      case measure => simp [intOf]; omega
def refNextErr (n : Int) (A B : List Int) : Nat := if n = 1000000 then 4 else if memErr B ≠ 0 then memErr B else if mostB A B = false then 8 else 0
theorem nextErr_ref {n : Int} {A B : List Int} (h : viewErr n A = 0) : nextErr n A B = refNextErr n A B := by unfold nextErr refNextErr; rw [if_neg (by simpa using h)]
set_option maxRecDepth 100000 in
set_option maxHeartbeats 4000000 in
theorem refNext_any {w0 w : World} {R : HProp} (n : Int) (va vb : Value) (A B : List Int) (h : Own w0 R w) (hA : Reads w0 R va A) (hB : Reads w0 R vb B) (hlen : A.length ≤ 100000) :
    Calls Tryd.prog 85 #[.agg #[.int .i64 n, va], vb] w fun e w' => e = .returned (.int .i64 (refNextErr n A B : Nat)) ∧ Own w0 R w' := by
  obtain ⟨ad, cap, rfl, hlc, hcap⟩ := (hA _ h).shape
  obtain ⟨b1, hb_b1⟩ : ∃ zz_, zz_ = (w).heap.size := ⟨_, rfl⟩
  obtain ⟨w1, hw_w1⟩ : ∃ zz_, zz_ = (w).alloc (.cells #[.int .i64 n, .slice ad A.length cap] 87 (0, 0)) := ⟨_, rfl⟩
  have h_HO1 := (h).alloc (.cells #[.int .i64 n, .slice ad A.length cap] 87 (0, 0))
  rw [← hb_b1, ← hw_w1] at h_HO1
  have HO1 := Lib.hid h_HO1
  clear h_HO1
  obtain ⟨c0, c1, _⟩ := (show Own w0 (VwO b1 n (.slice ad A.length cap) * R) w1 from HO1.out).vw
  have H := Lib.hid h; have HA := Lib.hid hA; have HB := Lib.hid hB
  clear h hA hB
  by_cases h1 : n = 1000000
  · have hE : refNextErr n A B = 4 := by unfold refNextErr; rw [if_pos h1]
    have t1 : (n == 1000000) = true := by simpa using h1
    have H1 := Lib.hid h1; have HE := Lib.hid hE
    clear h1 hE
    go_enter Tryd.func85, Tryd.ntmps85
    go_upto_region 1 with fail
    rw [← hb_b1, ← hw_w1]
    clear hb_b1 hw_w1
    go_wp2
    go_ret
    exact ⟨by rw [HE.out]; rfl, HO1.out.drop⟩
  have t1 : (n == 1000000) = false := by simpa using h1
  obtain ⟨E, hE⟩ : ∃ E, E = memErr B := ⟨_, rfl⟩
  by_cases h2 : E = 0
  rotate_left
  · have hR : refNextErr n A B = E := by unfold refNextErr; rw [if_neg h1, if_pos (by rw [← hE]; exact h2), hE]
    have t2 : ((E : Int) == 0) = false := by rw [beq_eq_false_iff_ne]; omega
    have H1 := Lib.hid h1; have H2 := Lib.hid h2; have HE := Lib.hid hE; have HR := Lib.hid hR
    clear h1 h2 hE hR
    go_enter Tryd.func85, Tryd.ntmps85
    go_upto_region 1 with fail
    rw [← hb_b1, ← hw_w1]
    clear hb_b1 hw_w1
    go_wp2_with fail
    refine (refHas_any _ B HO1.out HB.out.more).mono ?_
    rintro e w2 ⟨rfl, ho⟩
    rw [← HE.out]
    have HO2 := Lib.hid ho
    clear ho c0 c1
    go_wp2_with fail
    go_quiet (fail)
    go_wp2
    go_ret
    exact ⟨by rw [HR.out]; rfl, (HO2.out.drewN _).drop⟩
  have hR : refNextErr n A B = if mostB A B = false then 8 else 0 := by unfold refNextErr; rw [if_neg h1, if_neg (by rw [← hE]; simpa using h2)]
  obtain ⟨al, hal⟩ : ∃ al, al = A.length := ⟨_, rfl⟩
  obtain ⟨kl, hkl⟩ : ∃ kl, kl = (keepB B A).length := ⟨_, rfl⟩
  have hkal : kl ≤ al := by rw [hkl, hal]; exact List.length_filter_le _ _
  have hmo : mostB A B = !decide (2 * (kl : Int) ≤ (al : Int)) := by
    unfold mostB
    rw [← hal, ← hkl]
    by_cases hh : 2 * (kl : Int) ≤ (al : Int)
    · rw [decide_eq_true hh, decide_eq_false (by omega)]; rfl
    · rw [decide_eq_false hh, decide_eq_true (by omega)]; rfl
  have t2 : ((E : Int) == 0) = true := by rw [beq_iff_eq]; omega
  have hlen2 := hlen
  rw [← hal] at hlen c1 hlc HA HO1
  rw [← hal]
  rw [← hal] at hw_w1
  have H1 := Lib.hid h1; have HE := Lib.hid hE; have HR := Lib.hid hR; have HAL := Lib.hid hal; have HKL := Lib.hid hkl; have HMO := Lib.hid hmo; have HLEN2 := Lib.hid hlen2
  clear h1 hE hR hal hkl hmo hlen2
  subst h2
  go_enter Tryd.func85, Tryd.ntmps85
  go_upto_region 1 with fail
  rw [← hb_b1, ← hw_w1]
  clear hb_b1 hw_w1
  go_wp2_with fail
  refine (refHas_any _ B HO1.out HB.out.more).mono ?_
  rintro e w2 ⟨rfl, ho⟩
  rw [← HE.out]
  have HO2 : Hid (Own w0 (VwO b1 n (.slice ad al cap) * R) w2) := Lib.hid ho
  obtain ⟨c0, c1, _⟩ := HO2.out.vw
  clear ho
  go_wp2_with fail
  refine wp_region_planH 13 [] [(true, 0), (true, 1), (true, 2), (true, 3), (true, 4), (true, 5), (true, 9), (true, 10), (true, 11), (false, 6), (true, 7), (true, 8), (true, 12)] [13] (fun wS => wS.cell? ⟨b1, 1, none⟩ = some (.slice ad al cap)) (by kernel_rfl) (by kernel_rfl) (c1) ?_
  simp only [pickH, pick, List.getElem?_cons_succ, List.getElem?_cons_zero, Option.toList, Option.map_some, List.cons_append, List.nil_append]
  repeat (refine wpPure_step ?_ rfl ?_ ?_; rotate_left; (focus (intro _; first | with_reducible rfl | (go_simp; done) | (go_simp; with_reducible rfl) | rfl)); go_simp)
  refine wpPure_nil ?_
  repeat (first | (refine wpMix_read ?_ rfl ?_ ?_; rotate_left; (focus (intro _ hS; obtain s1 := hS; first | with_reducible rfl | (go_simp; done) | (go_simp; with_reducible rfl) | rfl)); go_simp) | (refine wpMix_readW ?_ ?_ ?_ ?_; rotate_left; (focus (first | rfl | (go_simp; done))); (focus (intro _ hS; obtain s1 := hS; first | with_reducible rfl | (go_simp; done) | (go_simp; with_reducible rfl) | rfl)); go_simp))
  refine wpMix_write (fun K hK => ?_)
  go_simp
  refine (refShared_any _ _ A B HO2.out.drew HA.out.more HB.out.more HLEN2.out).mono ?_
  rintro e w4 ⟨v4, rfl, ho⟩
  obtain ⟨ad4, cap4, hv4, _⟩ := Own.rd ho
  rw [← HKL.out] at hv4
  subst hv4
  obtain ⟨_, y1, _⟩ := (ho.perm (star_left_comm _ _ _)).vw
  have HO4 := Lib.hid ho
  clear ho
  obtain ⟨D, hD⟩ : ∃ D, D = decide (2 * (kl : Int) ≤ (al : Int)) := ⟨_, rfl⟩
  have hwr : IntKind.i64.wrap (2 * (kl : Int)) = 2 * (kl : Int) := by rw [IntKind.wrap_i64]; omega
  refine hK _ _ ⟨y1, ?_⟩
  clear hK K
  go_simp
  repeat (first | (refine wpMix_read ?_ rfl ?_ ?_; rotate_left; (focus (intro _ hS; obtain s1 := hS; first | with_reducible rfl | (go_simp; done) | (go_simp; with_reducible rfl) | rfl)); go_simp) | (refine wpMix_readW ?_ ?_ ?_ ?_; rotate_left; (focus (first | rfl | (go_simp; done))); (focus (intro _ hS; obtain s1 := hS; first | with_reducible rfl | (go_simp; done) | (go_simp; with_reducible rfl) | rfl)); go_simp))
  refine wpMix_nil ?_
  by_cases hle : 2 * (kl : Int) ≤ (al : Int)
  · have td : decide (2 * (kl : Int) ≤ (al : Int)) = true := decide_eq_true hle
    have hE8 : refNextErr n A B = 8 := by rw [HR.out, HMO.out, td]; rfl
    have HLE := Lib.hid hle; have HE8 := Lib.hid hE8; have HD := Lib.hid hD
    clear hle hE8 hD
    go_wp2_with fail
    refine NoPanic.normal ?_
    go_wp2
    go_ret
    exact ⟨by rw [HE8.out]; rfl, HO4.out.drop.drop⟩
  · have td : decide (2 * (kl : Int) ≤ (al : Int)) = false := decide_eq_false hle
    have hE8 : refNextErr n A B = 0 := by rw [HR.out, HMO.out, td]; rfl
    have HLE := Lib.hid hle; have HE8 := Lib.hid hE8; have HD := Lib.hid hD
    clear hle hE8 hD
    go_wp2_with fail
    refine NoPanic.normal ?_
    go_wp2
    go_ret
    exact ⟨by rw [HE8.out]; rfl, HO4.out.drop.drop⟩
set_option maxRecDepth 100000 in
set_option maxHeartbeats 4000000 in
theorem sameView_any {w0 w : World} {R : HProp} (n m : Int) (va vb : Value) (A B : List Int) (h : Own w0 R w) (hA : Reads w0 R va A) (hB : Reads w0 R vb B) :
    Calls Tryd.prog 39 #[.agg #[.int .i64 n, va], .agg #[.int .i64 m, vb]] w fun e w' => e = .returned (.bool (decide (n = m) && (A == B))) ∧ Own w0 R w' := by
  obtain ⟨ad, acap, rfl, _, _⟩ := (hA _ h).shape
  obtain ⟨bd, bcap, rfl, _, _⟩ := (hB _ h).shape
  obtain ⟨o1, ho1⟩ : ∃ o, o = Obj.cells #[.int .i64 n, .slice ad A.length acap] 87 (0, 0) := ⟨_, rfl⟩
  obtain ⟨o2, ho2⟩ : ∃ o, o = Obj.cells #[.int .i64 m, .slice bd B.length bcap] 87 (0, 0) := ⟨_, rfl⟩
  obtain ⟨b1, hb1⟩ : ∃ c, c = w.heap.size := ⟨_, rfl⟩
  obtain ⟨b2, hb2⟩ : ∃ c, c = (w.alloc o1).heap.size := ⟨_, rfl⟩
  obtain ⟨w2, hw2⟩ : ∃ c, c = (w.alloc o1).alloc o2 := ⟨_, rfl⟩
  have hb2' : w.heap.size + 1 = b2 := by rw [hb2]; simp
  have h2 := (h.alloc o1).alloc o2
  rw [← hb1, ← hb2, ← hw2, ho1, ho2] at h2
  have HV2 : Hid (Own w0 (VwO b2 m (.slice bd B.length bcap) * (VwO b1 n (.slice ad A.length acap) * R)) w2) := Lib.hid h2
  obtain ⟨d0, d1, _⟩ := HV2.out.vw
  obtain ⟨c0, c1, _⟩ := (HV2.out.perm (star_left_comm _ _ _)).vw
  have hra := hA.more.more _ HV2.out
  have hrb := hB.more.more _ HV2.out
  have H := Lib.hid h; have HA := Lib.hid hA; have HB := Lib.hid hB; have HRA := Lib.hid hra; have HRB := Lib.hid hrb
  clear h hA hB hra hrb
  clear h2 hb2
  by_cases h1 : n = m
  · have t1 : (n == m) = true := by simpa using h1
    have hd := decide_eq_true h1
    have H1 := Lib.hid h1; have HD := Lib.hid hd
    clear h1 hd
    go_enter Tryd.func39, Tryd.ntmps39
    go_upto_region 1 with fail
    rw [← hb1, ← ho1, ← ho2, ← hw2]
    clear hb2' hb1 ho1 ho2 hw2
    go_wp2_with fail
    refine (sameInts_any _ _ A B _ HRA.out HRB.out).mono ?_
    rintro e w' ⟨rfl, nq, rfl⟩
    obtain ⟨z, hz⟩ : ∃ z, z = (A == B) := ⟨_, rfl⟩
    rw [← hz]
    have HZ := Lib.hid hz
    clear hz
    go_wp2
    go_ret
    exact ⟨by rw [HD.out, HZ.out]; rfl, (HV2.out.drewN _).drop.drop⟩
  · have t1 : (n == m) = false := by simpa using h1
    have hd := decide_eq_false h1
    have H1 := Lib.hid h1; have HD := Lib.hid hd
    clear h1 hd
    go_enter Tryd.func39, Tryd.ntmps39
    go_upto_region 1 with fail
    rw [← hb1, ← ho1, ← ho2, ← hw2]
    clear hb2' hb1 ho1 ho2 hw2
    go_wp2
    go_ret
    exact ⟨by rw [HD.out]; rfl, HV2.out.drop.drop⟩
end Go.Proofs.YtpgonkecicmanaaDoor
/- The reference's Picture as it lies in memory. -/
namespace Go.Proofs.YtpgonkecicmanaaDoor
set_option linter.unusedVariables false
set_option linter.unusedSimpArgs false
open Go.RowKit Go.Maps
structure Rp where
  row : Nat → Nat → List Int
  begun : Bool
  has : Nat → Bool
  wrote : Nat → Int
  opn : Nat → Nat → Bool
  on : Int
  part : Nat → Nat → Int
def rpOf (s : Pic) (P : Nat → Nat → Int) : Rp := ⟨fun a b => pcRow s (a : Int) (b : Int), s.begun, fun m => (mget s.wrote (m : Int)).isSome, fun m => (mget s.wrote (m : Int)).getD 0, fun a b => (mget s.opn ((a : Int), (b : Int))).isSome, s.onWay, P⟩
structure RpC (cs : Array Value) (gv : Value) (rows : List (Value × List Int)) (r : Rp) : Prop where
  size : cs.size = 88
  len : rows.length = 25
  gold : cs[0]? = some gv
  ways : ∀ a b, a < 5 → b < 5 → cs[1 + a * 5 + b]? = (rows[a * 5 + b]?).map (·.1)
  rl : ∀ a b, a < 5 → b < 5 → (rows[a * 5 + b]?).map (·.2) = some (r.row a b)
  begun : cs[26]? = some (.bool r.begun)
  has : ∀ m, m < 5 → cs[27 + m]? = some (.bool (r.has m))
  wrote : ∀ m, m < 5 → cs[32 + m]? = some (.int .i64 (r.wrote m))
  opn : ∀ a b, a < 5 → b < 5 → cs[37 + a * 5 + b]? = some (.bool (r.opn a b))
  on : cs[62]? = some (.int .i64 r.on)
  part : ∀ a b, a < 5 → b < 5 → cs[63 + a * 5 + b]? = some (.int .i64 (r.part a b))
theorem set_at {cs : Array Value} {i : Nat} (v : Value) (h : i < cs.size) : (cs.setIfInBounds i v)[i]? = some v := by
  rw [Array.getElem?_setIfInBounds, if_pos rfl, if_pos h]
theorem set_off {cs : Array Value} {i j : Nat} (v : Value) (h : i ≠ j) : (cs.setIfInBounds i v)[j]? = cs[j]? := by
  rw [Array.getElem?_setIfInBounds, if_neg h]
section
variable {cs : Array Value} {gv : Value} {rows : List (Value × List Int)} {r : Rp}
theorem RpC.congr (h : RpC cs gv rows r) (r' : Rp) (e1 : ∀ a b, a < 5 → b < 5 → r.row a b = r'.row a b) (e2 : r.begun = r'.begun) (e3 : ∀ m, m < 5 → r.has m = r'.has m) (e4 : ∀ m, m < 5 → r.wrote m = r'.wrote m)
    (e5 : ∀ a b, a < 5 → b < 5 → r.opn a b = r'.opn a b) (e6 : r.on = r'.on) (e7 : ∀ a b, a < 5 → b < 5 → r.part a b = r'.part a b) : RpC cs gv rows r' where
  size := h.size
  len := h.len
  gold := h.gold
  ways := h.ways
  rl := fun a b ha hb => by rw [h.rl a b ha hb, e1 a b ha hb]
  begun := by rw [h.begun, e2]
  has := fun m hm => by rw [h.has m hm, e3 m hm]
  wrote := fun m hm => by rw [h.wrote m hm, e4 m hm]
  opn := fun a b ha hb => by rw [h.opn a b ha hb, e5 a b ha hb]
  on := by rw [h.on, e6]
  part := fun a b ha hb => by rw [h.part a b ha hb, e7 a b ha hb]
theorem RpC.setBegun (h : RpC cs gv rows r) (x : Bool) : RpC (cs.setIfInBounds (26) (.bool x)) gv rows { r with begun := x } where
  size := by rw [Array.size_setIfInBounds]; exact h.size
  len := h.len
  gold := by rw [set_off _ (by omega)]; exact h.gold
  ways := fun a b ha hb => by rw [set_off _ (by omega)]; exact h.ways a b ha hb
  rl := h.rl
  begun := by rw [set_at _ (by rw [h.size]; omega)]
  has := fun m hm => by rw [set_off _ (by omega)]; exact h.has m hm
  wrote := fun m hm => by rw [set_off _ (by omega)]; exact h.wrote m hm
  opn := fun a b ha hb => by rw [set_off _ (by omega)]; exact h.opn a b ha hb
  on := by rw [set_off _ (by omega)]; exact h.on
  part := fun a b ha hb => by rw [set_off _ (by omega)]; exact h.part a b ha hb
theorem RpC.setHas (h : RpC cs gv rows r) {j : Nat} (hj : j < 5) : RpC (cs.setIfInBounds (27 + j) (.bool true)) gv rows { r with has := fun m => if m = j then true else r.has m } where
  size := by rw [Array.size_setIfInBounds]; exact h.size
  len := h.len
  gold := by rw [set_off _ (by omega)]; exact h.gold
  ways := fun a b ha hb => by rw [set_off _ (by omega)]; exact h.ways a b ha hb
  rl := h.rl
  begun := by rw [set_off _ (by omega)]; exact h.begun
  has := fun m hm => by
    by_cases e : m = j
    · obtain rfl := e; rw [set_at _ (by rw [h.size]; omega)]; simp
    · rw [set_off _ (by omega), h.has m hm]; simp [e]
  wrote := fun m hm => by rw [set_off _ (by omega)]; exact h.wrote m hm
  opn := fun a b ha hb => by rw [set_off _ (by omega)]; exact h.opn a b ha hb
  on := by rw [set_off _ (by omega)]; exact h.on
  part := fun a b ha hb => by rw [set_off _ (by omega)]; exact h.part a b ha hb
theorem RpC.setWrote (h : RpC cs gv rows r) {j : Nat} (hj : j < 5) (x : Int) : RpC (cs.setIfInBounds (32 + j) (.int .i64 x)) gv rows { r with wrote := fun m => if m = j then x else r.wrote m } where
  size := by rw [Array.size_setIfInBounds]; exact h.size
  len := h.len
  gold := by rw [set_off _ (by omega)]; exact h.gold
  ways := fun a b ha hb => by rw [set_off _ (by omega)]; exact h.ways a b ha hb
  rl := h.rl
  begun := by rw [set_off _ (by omega)]; exact h.begun
  has := fun m hm => by rw [set_off _ (by omega)]; exact h.has m hm
  wrote := fun m hm => by
    by_cases e : m = j
    · obtain rfl := e; rw [set_at _ (by rw [h.size]; omega)]; simp
    · rw [set_off _ (by omega), h.wrote m hm]; simp [e]
  opn := fun a b ha hb => by rw [set_off _ (by omega)]; exact h.opn a b ha hb
  on := by rw [set_off _ (by omega)]; exact h.on
  part := fun a b ha hb => by rw [set_off _ (by omega)]; exact h.part a b ha hb
theorem RpC.setOpn (h : RpC cs gv rows r) {c d : Nat} (hc : c < 5) (hd : d < 5) (x : Bool) : RpC (cs.setIfInBounds (37 + c * 5 + d) (.bool x)) gv rows { r with opn := fun a b => if a = c ∧ b = d then x else r.opn a b } where
  size := by rw [Array.size_setIfInBounds]; exact h.size
  len := h.len
  gold := by rw [set_off _ (by omega)]; exact h.gold
  ways := fun a b ha hb => by rw [set_off _ (by omega)]; exact h.ways a b ha hb
  rl := h.rl
  begun := by rw [set_off _ (by omega)]; exact h.begun
  has := fun m hm => by rw [set_off _ (by omega)]; exact h.has m hm
  wrote := fun m hm => by rw [set_off _ (by omega)]; exact h.wrote m hm
  opn := fun a b ha hb => by
    by_cases e : a = c ∧ b = d
    · obtain ⟨rfl, rfl⟩ := e; rw [set_at _ (by rw [h.size]; omega)]; simp
    · rw [set_off _ (by omega), h.opn a b ha hb]; simp [e]
  on := by rw [set_off _ (by omega)]; exact h.on
  part := fun a b ha hb => by rw [set_off _ (by omega)]; exact h.part a b ha hb
theorem RpC.setOn (h : RpC cs gv rows r) (x : Int) : RpC (cs.setIfInBounds (62) (.int .i64 x)) gv rows { r with on := x } where
  size := by rw [Array.size_setIfInBounds]; exact h.size
  len := h.len
  gold := by rw [set_off _ (by omega)]; exact h.gold
  ways := fun a b ha hb => by rw [set_off _ (by omega)]; exact h.ways a b ha hb
  rl := h.rl
  begun := by rw [set_off _ (by omega)]; exact h.begun
  has := fun m hm => by rw [set_off _ (by omega)]; exact h.has m hm
  wrote := fun m hm => by rw [set_off _ (by omega)]; exact h.wrote m hm
  opn := fun a b ha hb => by rw [set_off _ (by omega)]; exact h.opn a b ha hb
  on := by rw [set_at _ (by rw [h.size]; omega)]
  part := fun a b ha hb => by rw [set_off _ (by omega)]; exact h.part a b ha hb
theorem RpC.setPart (h : RpC cs gv rows r) {c d : Nat} (hc : c < 5) (hd : d < 5) (x : Int) : RpC (cs.setIfInBounds (63 + c * 5 + d) (.int .i64 x)) gv rows { r with part := fun a b => if a = c ∧ b = d then x else r.part a b } where
  size := by rw [Array.size_setIfInBounds]; exact h.size
  len := h.len
  gold := by rw [set_off _ (by omega)]; exact h.gold
  ways := fun a b ha hb => by rw [set_off _ (by omega)]; exact h.ways a b ha hb
  rl := h.rl
  begun := by rw [set_off _ (by omega)]; exact h.begun
  has := fun m hm => by rw [set_off _ (by omega)]; exact h.has m hm
  wrote := fun m hm => by rw [set_off _ (by omega)]; exact h.wrote m hm
  opn := fun a b ha hb => by rw [set_off _ (by omega)]; exact h.opn a b ha hb
  on := by rw [set_off _ (by omega)]; exact h.on
  part := fun a b ha hb => by
    by_cases e : a = c ∧ b = d
    · obtain ⟨rfl, rfl⟩ := e; rw [set_at _ (by rw [h.size]; omega)]; simp
    · rw [set_off _ (by omega), h.part a b ha hb]; simp [e]
theorem RpC.setWay (h : RpC cs gv rows r) {c d : Nat} (hc : c < 5) (hd : d < 5) (v : Value) (l : List Int) : RpC (cs.setIfInBounds (1 + c * 5 + d) v) gv (rows.set (c * 5 + d) (v, l)) { r with row := fun a b => if a = c ∧ b = d then l else r.row a b } where
  size := by rw [Array.size_setIfInBounds]; exact h.size
  len := by rw [List.length_set]; exact h.len
  gold := by rw [set_off _ (by omega)]; exact h.gold
  ways := fun a b ha hb => by
    by_cases e : a = c ∧ b = d
    · obtain ⟨rfl, rfl⟩ := e; rw [set_at _ (by rw [h.size]; omega), List.getElem?_set, if_pos rfl, if_pos (by rw [h.len]; omega)]; rfl
    · rw [set_off _ (by omega), h.ways a b ha hb, List.getElem?_set, if_neg (by omega)]
  rl := fun a b ha hb => by
    show _ = some (if a = c ∧ b = d then l else r.row a b)
    by_cases e : a = c ∧ b = d
    · obtain ⟨rfl, rfl⟩ := e; rw [List.getElem?_set, if_pos rfl, if_pos (by rw [h.len]; omega), if_pos ⟨rfl, rfl⟩]; rfl
    · rw [List.getElem?_set, if_neg (by omega), h.rl a b ha hb, if_neg e]
  begun := by rw [set_off _ (by omega)]; exact h.begun
  has := fun m hm => by rw [set_off _ (by omega)]; exact h.has m hm
  wrote := fun m hm => by rw [set_off _ (by omega)]; exact h.wrote m hm
  opn := fun a b ha hb => by rw [set_off _ (by omega)]; exact h.opn a b ha hb
  on := by rw [set_off _ (by omega)]; exact h.on
  part := fun a b ha hb => by rw [set_off _ (by omega)]; exact h.part a b ha hb
theorem RpC.row (h : RpC cs gv rows r) {a b : Nat} (ha : a < 5) (hb : b < 5) : ∃ hl : a * 5 + b < rows.length, rows[a * 5 + b].2 = r.row a b ∧ cs[1 + a * 5 + b]? = some rows[a * 5 + b].1 := by
  have hl : a * 5 + b < rows.length := by rw [h.len]; omega
  have h1 := h.rl a b ha hb
  have h2 := h.ways a b ha hb
  rw [List.getElem?_eq_getElem hl] at h1 h2
  exact ⟨hl, Option.some.inj h1, h2⟩
end
/-- What is written of ways: as much as on those that are open; nothing where nobody wrote. -/
def PaI (P : Nat → Nat → Int) (s : Pic) : Prop := ∀ a b : Nat, a < 5 → b < 5 → (∀ x, mget s.opn ((a : Int), (b : Int)) = some x → P a b = x) ∧ (mget s.wrote (b : Int) = none → P a b = 0)
abbrev rpBlk (q : Nat) (cs : Array Value) : HProp := blk q (.cells cs 63 (0, 0))
def RpO (q : Nat) (cs : Array Value) (gv : Value) (rows : List (Value × List Int)) (s : Pic) : HProp := rpBlk q cs * (IntSl gv s.gold * starL rowP rows)
def RpP (q : Nat) (s : Pic) : HProp := hex fun (x : Array Value × Value × List (Value × List Int) × (Nat → Nat → Int)) => pur (RpC x.1 x.2.1 x.2.2.1 (rpOf s x.2.2.2) ∧ PaI x.2.2.2 s) * RpO q x.1 x.2.1 x.2.2.1 s
theorem Own.rp_open {w0 w : World} {q : Nat} {s : Pic} {R : HProp} (h : Own w0 (RpP q s * R) w) : ∃ cs gv rows P, (RpC cs gv rows (rpOf s P) ∧ PaI P s) ∧ Own w0 (rpBlk q cs * (IntSl gv s.gold * (starL rowP rows * R))) w := by
  obtain ⟨⟨cs, gv, rows, P⟩, h⟩ := Own.ex h
  rw [star_assoc] at h
  obtain ⟨he, h⟩ := Own.pur_out h
  exact ⟨cs, gv, rows, P, he, h.perm (by unfold RpO; ac_rfl)⟩
theorem Own.rp_close {w0 w : World} {q : Nat} {cs : Array Value} {gv : Value} {rows : List (Value × List Int)} {P : Nat → Nat → Int} {s : Pic} {R : HProp} (he : RpC cs gv rows (rpOf s P)) (hp : PaI P s) (h : Own w0 (rpBlk q cs * (IntSl gv s.gold * (starL rowP rows * R))) w) : Own w0 (RpP q s * R) w := by
  refine Own.ex_mk (cs, gv, rows, P) ?_
  rw [star_assoc]
  refine Own.pur_mk ⟨he, hp⟩ ?_
  refine h.perm ?_
  unfold RpO
  ac_rfl
section
variable {w0 w : World} {q : Nat} {cs : Array Value} {gv : Value} {rows : List (Value × List Int)} {r : Rp} {R : HProp}
theorem Own.rp_cells (he : RpC cs gv rows r) (h : Own w0 (rpBlk q cs * R) w) :
    w.cell? ⟨q, 0, none⟩ = some gv ∧ w.cell? ⟨q, 26, none⟩ = some (.bool r.begun) ∧ w.cell? ⟨q, 62, none⟩ = some (.int .i64 r.on) ∧
    (∀ m, m < 5 → w.cell? ⟨q, 27 + m, none⟩ = some (.bool (r.has m)) ∧ w.cell? ⟨q, 32 + m, none⟩ = some (.int .i64 (r.wrote m))) ∧
    (∀ a b, a < 5 → b < 5 → w.cell? ⟨q, 37 + a * 5 + b, none⟩ = some (.bool (r.opn a b)) ∧ w.cell? ⟨q, 63 + a * 5 + b, none⟩ = some (.int .i64 (r.part a b))) ∧ ∀ i t, w.frozen? ⟨q, i, t⟩ = false :=
  ⟨by rw [Own.cell h]; exact he.gold, by rw [Own.cell h]; exact he.begun, by rw [Own.cell h]; exact he.on, fun m hm => ⟨by rw [Own.cell h]; exact he.has m hm, by rw [Own.cell h]; exact he.wrote m hm⟩,
    fun a b ha hb => ⟨by rw [Own.cell h]; exact he.opn a b ha hb, by rw [Own.cell h]; exact he.part a b ha hb⟩, fun i t => Own.free h i t⟩
/-- What is on a way: its slice, and how it reads. -/
theorem Own.rp_row (he : RpC cs gv rows r) {a b : Nat} (ha : a < 5) (hb : b < 5) (hI : ∀ y ∈ r.row a b, I64 y) (h : Own w0 (rpBlk q cs * (starL rowP rows * R)) w) :
    ∃ ad cap, w.cell? ⟨q, 1 + a * 5 + b, none⟩ = some (.slice ad (r.row a b).length cap) ∧ Ints w (.slice ad (r.row a b).length cap) (r.row a b) := by
  obtain ⟨hl, h1, h2⟩ := he.row ha hb
  have h3 := h.second
  rw [starL_split rowP rows _ hl] at h3
  have h4 : Own w0 (IntSl rows[a * 5 + b].1 rows[a * 5 + b].2 * _) w := h3.perm (by unfold rowP; rw [star_assoc])
  rw [h1] at h4
  obtain ⟨ad, cap, hs⟩ := Own.int_shape h4
  refine ⟨ad, cap, ?_, ?_⟩
  · rw [Own.cell h, h2, hs]
  · have h5 := IntSl_reads hI _ h4
    rw [hs] at h5; exact h5
/-- One way's row out. -/
theorem Own.rp_take (he : RpC cs gv rows r) {a b : Nat} (ha : a < 5) (hb : b < 5) (h : Own w0 (rpBlk q cs * (starL rowP rows * R)) w) :
    ∃ hl : a * 5 + b < rows.length, ∃ ad cap, cs[1 + a * 5 + b]? = some (.slice ad (r.row a b).length cap) ∧ rows[a * 5 + b] = (.slice ad (r.row a b).length cap, r.row a b) ∧ Own w0 (IntSl (.slice ad (r.row a b).length cap) (r.row a b) * (rpBlk q cs * (starL rowP (rows.eraseIdx (a * 5 + b)) * R))) w := by
  obtain ⟨hl, h1, h2⟩ := he.row ha hb
  rw [starL_split rowP rows _ hl] at h
  have h4 : Own w0 (IntSl rows[a * 5 + b].1 rows[a * 5 + b].2 * (rpBlk q cs * (starL rowP (rows.eraseIdx (a * 5 + b)) * R))) w := h.perm (by unfold rowP; ac_rfl)
  rw [h1] at h4
  obtain ⟨ad, cap, hs⟩ := Own.int_shape h4
  rw [hs] at h4 h2
  exact ⟨hl, ad, cap, h2, Prod.ext hs h1, h4⟩
theorem rp_put {a b : Nat} {v : Value} {l : List Int} (hl : a * 5 + b < rows.length) (h : Own w0 (IntSl v l * (rpBlk q cs * (starL rowP (rows.eraseIdx (a * 5 + b)) * R))) w) : Own w0 (rpBlk q cs * (starL rowP (rows.set (a * 5 + b) (v, l)) * R)) w := by
  rw [starL_set rowP rows _ hl]
  refine h.perm ?_
  unfold rowP
  ac_rfl
end
set_option maxRecDepth 100000 in
set_option maxHeartbeats 4000000 in
theorem rpWay_any {w0 w : World} {R : HProp} (q : Nat) (s : Pic) (a b : Int) (h5 : s.gold.length ≤ 5) (h : Own w0 (RpP q s * R) w) :
    Calls Tryd.prog 20 #[.pointer (some ⟨q, 0, none⟩), .int .i64 a, .int .i64 b] w fun e w' => e = .returned (.int .i64 (pcWay s a b : Nat)) ∧ w = w' := by
  obtain ⟨cs, gv, rows, P, ⟨he, hp⟩, ho⟩ := h.rp_open
  obtain ⟨c0, _⟩ := ho.rp_cells he
  obtain ⟨ad, cap, hs⟩ := Own.int_shape ho.second
  obtain ⟨n, hn⟩ : ∃ n, n = s.gold.length := ⟨_, rfl⟩
  rw [← hn] at hs h5
  subst hs
  have hA : pcHas s a = true ↔ (0 ≤ a ∧ a < (n : Int)) := by unfold pcHas; rw [← hn]; simp
  have hB : pcHas s b = true ↔ (0 ≤ b ∧ b < (n : Int)) := by unfold pcHas; rw [← hn]; simp
  obtain ⟨E, hE⟩ : ∃ E, E = pcWay s a b := ⟨_, rfl⟩
  rw [← hE]
  by_cases hb : (0 ≤ a ∧ a < (n : Int)) ∧ (0 ≤ b ∧ b < (n : Int))
  rotate_left
  · have hE1 : E = 1 := by
      rw [hE]; unfold pcWay
      cases h1 : pcHas s a
      · rfl
      cases h2 : pcHas s b
      · rfl
      exact absurd ⟨hA.1 h1, hB.1 h2⟩ hb
    have hcs : a < 0 ∨ (¬ a < 0 ∧ (n : Int) ≤ a) ∨ (¬ a < 0 ∧ ¬ (n : Int) ≤ a ∧ b < 0) ∨ (¬ a < 0 ∧ ¬ (n : Int) ≤ a ∧ ¬ b < 0 ∧ (n : Int) ≤ b) := by omega
    subst hE1
    have H := Lib.hid h; have HO := Lib.hid ho; have HE := Lib.hid he; have HP := Lib.hid hp; have HN := Lib.hid hn; have HB := Lib.hid hb; have HE := Lib.hid hE; have HA := Lib.hid hA; have HB := Lib.hid hB
    clear h ho he hp hn hb hE hA hB
    rcases hcs with h1 | ⟨h1, h2⟩ | ⟨h1, h2, h3⟩ | ⟨h1, h2, h3, h4⟩
    all_goals
      go_enter Tryd.func20, Tryd.ntmps20
      go_wp2
      go_ret
      exact ⟨rfl, rfl⟩
  obtain ⟨hib, hwb⟩ := hb
  have hE2 : E = if a = b then 3 else 0 := by
    rw [hE]; unfold pcWay
    rw [hA.2 hib, hB.2 hwb]
    simp
  clear hE
  have H := Lib.hid h; have HO := Lib.hid ho; have HE := Lib.hid he; have HP := Lib.hid hp; have HN := Lib.hid hn; have HA := Lib.hid hA; have HB := Lib.hid hB
  clear h ho he hp hn hA hB
  by_cases hab : a = b
  · subst hab
    rw [if_pos rfl] at hE2
    subst hE2
    go_enter Tryd.func20, Tryd.ntmps20
    go_wp2
    go_ret
    exact ⟨rfl, rfl⟩
  · have t1 : (a == b) = false := by rw [beq_eq_false_iff_ne]; exact hab
    rw [if_neg hab] at hE2
    subst hE2
    have HAB := Lib.hid hab
    clear hab
    go_enter Tryd.func20, Tryd.ntmps20
    go_wp2
    go_ret
    exact ⟨rfl, rfl⟩
end Go.Proofs.YtpgonkecicmanaaDoor
