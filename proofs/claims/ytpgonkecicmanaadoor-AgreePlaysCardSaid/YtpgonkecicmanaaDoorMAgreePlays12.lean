/- Contracts of the reference: what is wrong with a view; who is shared; the next view. -/
import Derived.Test.YtpgonkecicmanaaDoorMAgreePlays11
import Derived.Test.YtpgonkecicmanaaDoorMAgreePlays5
import Derived.Test.YtpgonkecicmanaaDoorMAgreePlays6
import Derived.Test.YtpgonkecicmanaaDoorMAgreePlays8
import Derived.Test.YtpgonkecicmanaaDoorMAgreePlays10
namespace Go.Proofs.YtpgonkecicmanaaDoor
set_option linter.unusedVariables false
set_option linter.unusedSimpArgs false
open Go.RowKit
theorem memGo_cons (p x : Int) (r : List Int) : memGo p (x :: r) = if isMember x = false then 1 else if x ≤ p then 3 else memGo x r := rfl
def prevOf (l : List Int) (k : Nat) : Int := if k = 0 then -1 else l.getD (k - 1) 0
set_option maxRecDepth 100000 in
set_option maxHeartbeats 4000000 in
theorem refHas_any {w0 w : World} {R : HProp} (v : Value) (l : List Int) (h : Own w0 R w) (hl : Reads w0 R v l) :
    Calls Tryd.prog 114 #[v] w fun e w' => e = .returned (.int .i64 (memErr l : Nat)) ∧ Own w0 R w' := by
  obtain ⟨ad, cap, rfl, hlc, hcap⟩ := (hl _ h).shape
  obtain ⟨n, hn⟩ : ∃ n, n = l.length := ⟨_, rfl⟩
  rw [← hn] at hlc hl ⊢
  by_cases h0 : n = 0
  · have hE : memErr l = 5 := by unfold memErr; rw [if_pos (List.eq_nil_of_length_eq_zero (by omega))]
    subst h0
    have H := Lib.hid h; have HL := Lib.hid hl; have HN := Lib.hid hn; have HE := Lib.hid hE
    clear h hl hn hE
    go_enter Tryd.func114, Tryd.ntmps114
    go_wp2
    go_ret
    exact ⟨by rw [HE.out]; rfl, H.out⟩
  have hE : memErr l = memGo (-1) l := by unfold memErr; rw [if_neg (by intro e; rw [e] at hn; exact h0 hn)]
  have t0 : ((n : Int) == 0) = false := by rw [beq_eq_false_iff_ne]; omega
  have H := Lib.hid h; have HL := Lib.hid hl; have HN := Lib.hid hn; have HE := Lib.hid hE
  clear h hl hn hE
  go_enter Tryd.func114, Tryd.ntmps114
  go_wp2_with fail
  go_loopw [3] (fun iv wr => ∃ k : Nat, k ≤ n ∧ iv = .int .i64 k ∧ Hid (memGo (prevOf l k) (l.drop k) = memErr l) ∧ Hid (0 < k → 0 ≤ prevOf l k) ∧ Hid (Own w0 R wr)) (fun iv _ => n - (intOf iv).toNat)
  case atStart => exact ⟨0, Nat.zero_le _, rfl, Lib.hid HE.out.symm, Lib.hid (fun h => by omega), H⟩
  case round =>
    obtain ⟨k, hk, rfl, HM, HP, HO⟩ := hrel
    by_cases hlt : k < n
    rotate_left
    · have hfin : memErr l = 0 := by
        have := HM.out
        rw [List.drop_of_length_le (by rw [← HN.out]; omega)] at this
        rw [← this]; rfl
      have HFIN := Lib.hid hfin
      clear hfin
      go_wp2
      go_ret
      exact ⟨by rw [HFIN.out]; rfl, HO.out⟩
    have hkl : k < l.length := by rw [← HN.out]; exact hlt
    obtain ⟨a, rfl, hc⟩ := (HL.out _ HO.out).at k hkl
    obtain ⟨x, hx⟩ : ∃ x, x = l[k] := ⟨_, rfl⟩
    rw [← hx] at hc
    have hg := HM.out
    rw [List.drop_eq_getElem_cons hkl, ← hx, memGo_cons] at hg
    have hpn : prevOf l (k + 1) = x := by unfold prevOf; rw [if_neg (by omega), Nat.add_sub_cancel, List.getD_eq_getElem?_getD, List.getElem?_eq_getElem hkl, ← hx]; rfl
    have k0 : (0 : Int) ≤ (k : Int) := by omega
    have kn : (k : Int) < (n : Int) := by omega
    by_cases h1 : x < 0
    · have hE1 : memErr l = 1 := by rw [← hg, if_pos (by simp [isMember]; omega)]
      have t1 : decide (x < 0) = true := by simpa using h1
      have HX := Lib.hid hx; have HG := Lib.hid hg; have HPN := Lib.hid hpn; have H1 := Lib.hid h1; have HE1 := Lib.hid hE1
      clear hx hg hpn h1 hE1
      go_wp2
      go_ret
      exact ⟨by rw [HE1.out]; rfl, HO.out⟩
    have t1 : decide (x < 0) = false := by simpa using h1
    by_cases h2 : 4 < x
    · have hE1 : memErr l = 1 := by rw [← hg, if_pos (by simp [isMember]; omega)]
      have t2 : decide (4 < x) = true := by simpa using h2
      have HX := Lib.hid hx; have HG := Lib.hid hg; have HPN := Lib.hid hpn; have H1 := Lib.hid h1; have H2 := Lib.hid h2; have HE1 := Lib.hid hE1
      clear hx hg hpn h1 h2 hE1
      go_wp2
      go_ret
      exact ⟨by rw [HE1.out]; rfl, HO.out⟩
    have t2 : decide (4 < x) = false := by simpa using h2
    rw [if_neg (by simp [isMember]; omega)] at hg
    by_cases hz : k = 0
    · have hp0 : prevOf l k = -1 := by unfold prevOf; rw [if_pos hz]
      rw [hp0, if_neg (by omega), ← hpn] at hg
      have hg2 : memGo (prevOf l (k + 1)) (l.drop (k + 1)) = memErr l := hg
      have hx0 : 0 ≤ prevOf l (k + 1) := by rw [hpn]; omega
      have t3 : decide ((0 : Int) < (k : Int)) = false := decide_eq_false (by omega)
      have t3n : decide (0 < k) = false := decide_eq_false (by omega)
      have HX := Lib.hid hx; have HG := Lib.hid hg; have HPN := Lib.hid hpn; have H1 := Lib.hid h1; have H2 := Lib.hid h2; have HP0 := Lib.hid hp0; have HG2 := Lib.hid hg2; have HX0 := Lib.hid hx0; have HZ := Lib.hid hz
      clear hx hg hpn h1 h2 hp0 hg2 hx0 hz
      go_wp2_with fail
      go_quiet (fail)
      go_wp2_with fail
      go_roundw
      case rel => exact ⟨k + 1, by omega, by go_num, HG2, Lib.hid (fun _ => HX0.out), Lib.hid (HO.out.drewN _)⟩
      case measure => simp [intOf]; omega
    · obtain ⟨j, hj⟩ : ∃ j, k = j + 1 := ⟨k - 1, by omega⟩
      obtain ⟨a', ha', hc2⟩ := (HL.out _ HO.out).at j (by omega)
      cases ha'
      have hjl : j < l.length := by omega
      obtain ⟨y, hc3, hy⟩ : ∃ y, wr.cell? (a.add j) = some (.int .i64 y) ∧ y = l.getD j 0 := ⟨l[j], hc2, by rw [List.getD_eq_getElem?_getD, List.getElem?_eq_getElem hjl]; rfl⟩
      clear hc2 hjl
      have hp1 : prevOf l k = y := by unfold prevOf; rw [if_neg (by omega), show k - 1 = j by omega, hy]
      rw [hp1] at hg
      have t3 : decide ((0 : Int) < (k : Int)) = true := decide_eq_true (by omega)
      have t3n : decide (0 < k) = true := decide_eq_true (by omega)
      have tj : (k : Int) - 1 = (j : Int) := by omega
      have j0 : (0 : Int) ≤ (j : Int) := by omega
      have jn : (j : Int) < (n : Int) := by omega
      by_cases h3 : x ≤ y
      · have t4 : decide (x ≤ y) = true := by simpa using h3
        rw [if_pos h3] at hg
        have HX := Lib.hid hx; have HG := Lib.hid hg; have HPN := Lib.hid hpn; have H1 := Lib.hid h1; have H2 := Lib.hid h2; have H3 := Lib.hid h3; have HP1 := Lib.hid hp1; have HY := Lib.hid hy; have HZ := Lib.hid hz; have HJ := Lib.hid hj
        clear hx hg hpn h1 h2 h3 hp1 hy hz hj
        go_wp2_with fail
        go_quiet (fail)
        go_wp2_with fail
        go_ret
        exact ⟨by rw [← HG.out]; rfl, HO.out.drewN _⟩
      · have t4 : decide (x ≤ y) = false := by simpa using h3
        rw [if_neg h3, ← hpn] at hg
        have hx0 : 0 ≤ prevOf l (k + 1) := by rw [hpn]; omega
        have HX := Lib.hid hx; have HG := Lib.hid hg; have HPN := Lib.hid hpn; have H1 := Lib.hid h1; have H2 := Lib.hid h2; have H3 := Lib.hid h3; have HP1 := Lib.hid hp1; have HY := Lib.hid hy; have HX0 := Lib.hid hx0; have HZ := Lib.hid hz; have HJ := Lib.hid hj
        clear hx hg hpn h1 h2 h3 hp1 hy hx0 hz hj
        go_wp2_with fail
        go_quiet (fail)
        go_wp2_with fail
        go_roundw
        case rel => exact ⟨k + 1, by omega, by go_num, HG, Lib.hid (fun _ => HX0.out), Lib.hid (HO.out.drewN _)⟩
        case measure => simp [intOf]; omega
set_option maxRecDepth 100000 in
set_option maxHeartbeats 4000000 in
theorem refShared_any {w0 w : World} {R : HProp} (va vb : Value) (A B : List Int) (h : Own w0 R w) (hA : Reads w0 R va A) (hB : Reads w0 R vb B) (hlen : A.length ≤ 100000) :
    Calls Tryd.prog 86 #[va, vb] w fun e w' => ∃ v', e = .returned v' ∧ Own w0 (IntSl v' (keepB B A) * R) w' := by
  obtain ⟨ad, cap, rfl, hlc, hcap⟩ := (hA _ h).shape
  obtain ⟨n, hn⟩ : ∃ n, n = A.length := ⟨_, rfl⟩
  rw [← hn] at hlc hA hlen ⊢
  have H := Lib.hid h; have HA := Lib.hid hA; have HB := Lib.hid hB; have HN := Lib.hid hn
  clear h hA hB hn
  go_enter Tryd.func86, Tryd.ntmps86
  go_wp2_with fail
  go_loopw [6, 5] (fun iv ov wr => ∃ k : Nat, k ≤ n ∧ iv = .int .i64 k ∧ Hid (Own w0 (IntSl ov (keepB B (A.take k)) * R) wr)) (fun iv _ _ => n - (intOf iv).toNat)
  case atStart => exact ⟨0, Nat.zero_le _, rfl, Lib.hid (by rw [List.take_zero]; exact H.out.sl_nil _ _)⟩
  case round =>
    obtain ⟨k, hk, rfl, HO⟩ := hrel
    by_cases hlt : k < n
    rotate_left
    · have ho := HO.out
      rw [List.take_of_length_le (by rw [← HN.out]; omega)] at ho
      have HF := Lib.hid ho
      clear ho
      go_wp2
      go_ret
      exact ⟨_, rfl, HF.out⟩
    have hkl : k < A.length := by rw [← HN.out]; exact hlt
    obtain ⟨a, rfl, hc⟩ := (HA.out.more _ HO.out).at k hkl
    have hbr := HB.out.more _ HO.out
    have hst : keepB B (A.take (k + 1)) = keepB B (A.take k) ++ (if A[k] ∈ B then [A[k]] else []) := by
      rw [List.take_succ_eq_append_getElem hkl]
      unfold keepB
      rw [List.filter_append]
      by_cases hm : A[k] ∈ B <;> simp [hm]
    obtain ⟨x, hx⟩ : ∃ x, x = A[k] := ⟨_, rfl⟩
    obtain ⟨out, hout⟩ : ∃ out, out = keepB B (A.take k) := ⟨_, rfl⟩
    have hol : out.length ≤ k := by rw [hout]; exact Nat.le_trans (List.length_filter_le _ _) (by simp; omega)
    rw [← hx] at hc hst
    rw [← hout] at hst
    have hown := HO.out
    rw [← hout] at hown
    have HOW : Hid (Own w0 (Sl 3 1 u5 out.length (out.map (Value.int .i64)) * R) wr) := Lib.hid hown
    have k0 : (0 : Int) ≤ (k : Int) := by omega
    have kn : (k : Int) < (n : Int) := by omega
    by_cases hin : x ∈ B
    · have hd := decide_eq_true hin
      rw [if_pos hin] at hst
      have HX := Lib.hid hx; have HOUT := Lib.hid hout; have HBR := Lib.hid hbr; have HST := Lib.hid hst; have HOWN := Lib.hid hown; have HIN := Lib.hid hin
      clear hx hout hbr hst hown hin
      go_wp2_with fail
      refine (refIn_any _ B x _ HBR.out).mono ?_
      rintro e w' ⟨rfl, rfl⟩
      rw [hd]
      go_wp2_with (at_builtin; refine wpList_app rfl _ _ 38 rfl 3 1 8 _ info_int Tryd.underlying38 rfl (by decide) rfl (HOW.out.alloc' _) rfl (by rfl) (Rd_lit (by simp) (by unfold maxLen; omega)) (by intro u hu; simp at hu; subst hu; rfl) (by unfold maxLen; omega) (by omega) ?_; intro v' w4 hown; have HN2 : Hid (Own w0 (IntSl v' (keepB B (A.take (k + 1))) * R) w4) := Lib.hid (by rw [HST.out]; exact (hown.perm (show _ = IntSl v' (out ++ [x]) * R by unfold IntSl; simp))); clear hown)
      go_roundw
      case rel => exact ⟨k + 1, by omega, by go_num, HN2⟩
      case measure => simp [intOf]; omega
    · have hd := decide_eq_false hin
      rw [if_neg hin, List.append_nil] at hst
      have HN2 : Hid (Own w0 (IntSl u5 (keepB B (A.take (k + 1))) * R) wr) := Lib.hid (by rw [hst]; exact hown)
      have HX := Lib.hid hx; have HOUT := Lib.hid hout; have HBR := Lib.hid hbr; have HST := Lib.hid hst; have HOWN := Lib.hid hown; have HIN := Lib.hid hin
      clear hx hout hbr hst hown hin
      go_wp2_with fail
      refine (refIn_any _ B x _ HBR.out).mono ?_
      rintro e w' ⟨rfl, rfl⟩
      rw [hd]
      go_wp2_with fail
      go_roundw
      case rel => exact ⟨k + 1, by omega, by go_num, HN2⟩
      case measure => simp [intOf]; omega
def refNextErr (n : Int) (A B : List Int) : Nat := if n = 1000000 then 4 else if memErr B ≠ 0 then memErr B else if mostB A B = false then 8 else 0
theorem nextErr_ref {n : Int} {A B : List Int} (h : viewErr n A = 0) : nextErr n A B = refNextErr n A B := by unfold nextErr refNextErr; rw [if_neg (by simpa using h)]
set_option maxRecDepth 100000 in
set_option maxHeartbeats 4000000 in
theorem refNext_any {w0 w : World} {R : HProp} (n : Int) (va vb : Value) (A B : List Int) (h : Own w0 R w) (hA : Reads w0 R va A) (hB : Reads w0 R vb B) (hlen : A.length ≤ 100000) :
    Calls Tryd.prog 85 #[.agg #[.int .i64 n, va], vb] w fun e w' => e = .returned (.int .i64 (refNextErr n A B : Nat)) ∧ Own w0 R w' := by
  obtain ⟨ad, cap, rfl, hlc, hcap⟩ := (hA _ h).shape
  obtain ⟨b1, hb_b1⟩ : ∃ zz_, zz_ = (w).heap.size := ⟨_, rfl⟩
  obtain ⟨w1, hw_w1⟩ : ∃ zz_, zz_ = (w).alloc (.cells #[.int .i64 n, .slice ad A.length cap] 87 (0, 0)) := ⟨_, rfl⟩
  have h_HO1 := (h).alloc (.cells #[.int .i64 n, .slice ad A.length cap] 87 (0, 0))
  rw [← hb_b1, ← hw_w1] at h_HO1
  have HO1 := Lib.hid h_HO1
  clear h_HO1
  obtain ⟨c0, c1, _⟩ := (show Own w0 (VwO b1 n (.slice ad A.length cap) * R) w1 from HO1.out).vw
  have H := Lib.hid h; have HA := Lib.hid hA; have HB := Lib.hid hB
  clear h hA hB
  by_cases h1 : n = 1000000
  · have hE : refNextErr n A B = 4 := by unfold refNextErr; rw [if_pos h1]
    have t1 : (n == 1000000) = true := by simpa using h1
    have H1 := Lib.hid h1; have HE := Lib.hid hE
    clear h1 hE
    go_enter Tryd.func85, Tryd.ntmps85
    go_upto_region 1 with fail
    rw [← hb_b1, ← hw_w1]
    clear hb_b1 hw_w1
    go_wp2
    go_ret
    exact ⟨by rw [HE.out]; rfl, HO1.out.drop⟩
  have t1 : (n == 1000000) = false := by simpa using h1
  obtain ⟨E, hE⟩ : ∃ E, E = memErr B := ⟨_, rfl⟩
  by_cases h2 : E = 0
  rotate_left
  · have hR : refNextErr n A B = E := by unfold refNextErr; rw [if_neg h1, if_pos (by rw [← hE]; exact h2), hE]
    have t2 : ((E : Int) == 0) = false := by rw [beq_eq_false_iff_ne]; omega
    have H1 := Lib.hid h1; have H2 := Lib.hid h2; have HE := Lib.hid hE; have HR := Lib.hid hR
    clear h1 h2 hE hR
    go_enter Tryd.func85, Tryd.ntmps85
    go_upto_region 1 with fail
    rw [← hb_b1, ← hw_w1]
    clear hb_b1 hw_w1
    go_wp2_with fail
    refine (refHas_any _ B HO1.out HB.out.more).mono ?_
    rintro e w2 ⟨rfl, ho⟩
    rw [← HE.out]
    have HO2 := Lib.hid ho
    clear ho c0 c1
    go_wp2_with fail
    go_quiet (fail)
    go_wp2
    go_ret
    exact ⟨by rw [HR.out]; rfl, (HO2.out.drewN _).drop⟩
  have hR : refNextErr n A B = if mostB A B = false then 8 else 0 := by unfold refNextErr; rw [if_neg h1, if_neg (by rw [← hE]; simpa using h2)]
  obtain ⟨al, hal⟩ : ∃ al, al = A.length := ⟨_, rfl⟩
  obtain ⟨kl, hkl⟩ : ∃ kl, kl = (keepB B A).length := ⟨_, rfl⟩
  have hkal : kl ≤ al := by rw [hkl, hal]; exact List.length_filter_le _ _
  have hmo : mostB A B = !decide (2 * (kl : Int) ≤ (al : Int)) := by
    unfold mostB
    rw [← hal, ← hkl]
    by_cases hh : 2 * (kl : Int) ≤ (al : Int)
    · rw [decide_eq_true hh, decide_eq_false (by omega)]; rfl
    · rw [decide_eq_false hh, decide_eq_true (by omega)]; rfl
  have t2 : ((E : Int) == 0) = true := by rw [beq_iff_eq]; omega
  have hlen2 := hlen
  rw [← hal] at hlen c1 hlc HA HO1
  rw [← hal]
  rw [← hal] at hw_w1
  have H1 := Lib.hid h1; have HE := Lib.hid hE; have HR := Lib.hid hR; have HAL := Lib.hid hal; have HKL := Lib.hid hkl; have HMO := Lib.hid hmo; have HLEN2 := Lib.hid hlen2
  clear h1 hE hR hal hkl hmo hlen2
  subst h2
  go_enter Tryd.func85, Tryd.ntmps85
  go_upto_region 1 with fail
  rw [← hb_b1, ← hw_w1]
  clear hb_b1 hw_w1
  go_wp2_with fail
  refine (refHas_any _ B HO1.out HB.out.more).mono ?_
  rintro e w2 ⟨rfl, ho⟩
  rw [← HE.out]
  have HO2 : Hid (Own w0 (VwO b1 n (.slice ad al cap) * R) w2) := Lib.hid ho
  obtain ⟨c0, c1, _⟩ := HO2.out.vw
  clear ho
  go_wp2_with fail
  refine wp_region_planH 13 [] [(true, 0), (true, 1), (true, 2), (true, 3), (true, 4), (true, 5), (true, 9), (true, 10), (true, 11), (false, 6), (true, 7), (true, 8), (true, 12)] [13] (fun wS => wS.cell? ⟨b1, 1, none⟩ = some (.slice ad al cap)) (by kernel_rfl) (by kernel_rfl) (c1) ?_
  simp only [pickH, pick, List.getElem?_cons_succ, List.getElem?_cons_zero, Option.toList, Option.map_some, List.cons_append, List.nil_append]
  repeat (refine wpPure_step ?_ rfl ?_ ?_; rotate_left; (focus (intro _; first | with_reducible rfl | (go_simp; done) | (go_simp; with_reducible rfl) | rfl)); go_simp)
  refine wpPure_nil ?_
  repeat (first | (refine wpMix_read ?_ rfl ?_ ?_; rotate_left; (focus (intro _ hS; obtain s1 := hS; first | with_reducible rfl | (go_simp; done) | (go_simp; with_reducible rfl) | rfl)); go_simp) | (refine wpMix_readW ?_ ?_ ?_ ?_; rotate_left; (focus (first | rfl | (go_simp; done))); (focus (intro _ hS; obtain s1 := hS; first | with_reducible rfl | (go_simp; done) | (go_simp; with_reducible rfl) | rfl)); go_simp))
  refine wpMix_write (fun K hK => ?_)
  go_simp
  refine (refShared_any _ _ A B HO2.out.drew HA.out.more HB.out.more HLEN2.out).mono ?_
  rintro e w4 ⟨v4, rfl, ho⟩
  obtain ⟨ad4, cap4, hv4, _⟩ := Own.rd ho
  rw [← HKL.out] at hv4
  subst hv4
  obtain ⟨_, y1, _⟩ := (ho.perm (star_left_comm _ _ _)).vw
  have HO4 := Lib.hid ho
  clear ho
  obtain ⟨D, hD⟩ : ∃ D, D = decide (2 * (kl : Int) ≤ (al : Int)) := ⟨_, rfl⟩
  have hwr : IntKind.i64.wrap (2 * (kl : Int)) = 2 * (kl : Int) := by rw [IntKind.wrap_i64]; omega
  refine hK _ _ ⟨y1, ?_⟩
  clear hK K
  go_simp
  repeat (first | (refine wpMix_read ?_ rfl ?_ ?_; rotate_left; (focus (intro _ hS; obtain s1 := hS; first | with_reducible rfl | (go_simp; done) | (go_simp; with_reducible rfl) | rfl)); go_simp) | (refine wpMix_readW ?_ ?_ ?_ ?_; rotate_left; (focus (first | rfl | (go_simp; done))); (focus (intro _ hS; obtain s1 := hS; first | with_reducible rfl | (go_simp; done) | (go_simp; with_reducible rfl) | rfl)); go_simp))
  refine wpMix_nil ?_
  by_cases hle : 2 * (kl : Int) ≤ (al : Int)
  · have td : decide (2 * (kl : Int) ≤ (al : Int)) = true := decide_eq_true hle
    have hE8 : refNextErr n A B = 8 := by rw [HR.out, HMO.out, td]; rfl
    have HLE := Lib.hid hle; have HE8 := Lib.hid hE8; have HD := Lib.hid hD
    clear hle hE8 hD
    go_wp2_with fail
    refine NoPanic.normal ?_
    go_wp2
    go_ret
    exact ⟨by rw [HE8.out]; rfl, HO4.out.drop.drop⟩
  · have td : decide (2 * (kl : Int) ≤ (al : Int)) = false := decide_eq_false hle
    have hE8 : refNextErr n A B = 0 := by rw [HR.out, HMO.out, td]; rfl
    have HLE := Lib.hid hle; have HE8 := Lib.hid hE8; have HD := Lib.hid hD
    clear hle hE8 hD
    go_wp2_with fail
    refine NoPanic.normal ?_
    go_wp2
    go_ret
    exact ⟨by rw [HE8.out]; rfl, HO4.out.drop.drop⟩
set_option maxRecDepth 100000 in
set_option maxHeartbeats 4000000 in
theorem sameView_any {w0 w : World} {R : HProp} (n m : Int) (va vb : Value) (A B : List Int) (h : Own w0 R w) (hA : Reads w0 R va A) (hB : Reads w0 R vb B) :
    Calls Tryd.prog 39 #[.agg #[.int .i64 n, va], .agg #[.int .i64 m, vb]] w fun e w' => e = .returned (.bool (decide (n = m) && (A == B))) ∧ Own w0 R w' := by
  obtain ⟨ad, acap, rfl, _, _⟩ := (hA _ h).shape
  obtain ⟨bd, bcap, rfl, _, _⟩ := (hB _ h).shape
  obtain ⟨o1, ho1⟩ : ∃ o, o = Obj.cells #[.int .i64 n, .slice ad A.length acap] 87 (0, 0) := ⟨_, rfl⟩
  obtain ⟨o2, ho2⟩ : ∃ o, o = Obj.cells #[.int .i64 m, .slice bd B.length bcap] 87 (0, 0) := ⟨_, rfl⟩
  obtain ⟨b1, hb1⟩ : ∃ c, c = w.heap.size := ⟨_, rfl⟩
  obtain ⟨b2, hb2⟩ : ∃ c, c = (w.alloc o1).heap.size := ⟨_, rfl⟩
  obtain ⟨w2, hw2⟩ : ∃ c, c = (w.alloc o1).alloc o2 := ⟨_, rfl⟩
  have hb2' : w.heap.size + 1 = b2 := by rw [hb2]; simp
  have h2 := (h.alloc o1).alloc o2
  rw [← hb1, ← hb2, ← hw2, ho1, ho2] at h2
  have HV2 : Hid (Own w0 (VwO b2 m (.slice bd B.length bcap) * (VwO b1 n (.slice ad A.length acap) * R)) w2) := Lib.hid h2
  obtain ⟨d0, d1, _⟩ := HV2.out.vw
  obtain ⟨c0, c1, _⟩ := (HV2.out.perm (star_left_comm _ _ _)).vw
  have hra := hA.more.more _ HV2.out
  have hrb := hB.more.more _ HV2.out
  have H := Lib.hid h; have HA := Lib.hid hA; have HB := Lib.hid hB; have HRA := Lib.hid hra; have HRB := Lib.hid hrb
  clear h hA hB hra hrb
  clear h2 hb2
  by_cases h1 : n = m
  · have t1 : (n == m) = true := by simpa using h1
    have hd := decide_eq_true h1
    have H1 := Lib.hid h1; have HD := Lib.hid hd
    clear h1 hd
    go_enter Tryd.func39, Tryd.ntmps39
    go_upto_region 1 with fail
    rw [← hb1, ← ho1, ← ho2, ← hw2]
    clear hb2' hb1 ho1 ho2 hw2
    go_wp2_with fail
    refine (sameInts_any _ _ A B _ HRA.out HRB.out).mono ?_
    rintro e w' ⟨rfl, nq, rfl⟩
    obtain ⟨z, hz⟩ : ∃ z, z = (A == B) := ⟨_, rfl⟩
    rw [← hz]
    have HZ := Lib.hid hz
    clear hz
    go_wp2
    go_ret
    exact ⟨by rw [HD.out, HZ.out]; rfl, (HV2.out.drewN _).drop.drop⟩
  · have t1 : (n == m) = false := by simpa using h1
    have hd := decide_eq_false h1
    have H1 := Lib.hid h1; have HD := Lib.hid hd
    clear h1 hd
    go_enter Tryd.func39, Tryd.ntmps39
    go_upto_region 1 with fail
    rw [← hb1, ← ho1, ← ho2, ← hw2]
    clear hb2' hb1 ho1 ho2 hw2
    go_wp2
    go_ret
    exact ⟨by rw [HD.out]; rfl, HV2.out.drop.drop⟩
end Go.Proofs.YtpgonkecicmanaaDoor
/- The reference's Agree: Less, Check, Final. -/
namespace Go.Proofs.YtpgonkecicmanaaDoor
set_option linter.unusedVariables false
set_option linter.unusedSimpArgs false
open Go.RowKit Go.Maps
set_option maxRecDepth 100000 in
set_option maxHeartbeats 4000000 in
theorem rgLess_any {w0 w : World} {R : HProp} (a b : St) (h : Own w0 R w) :
    Calls Tryd.prog 70 #[.agg #[.int .i64 a.1, .int .i64 a.2], .agg #[.int .i64 b.1, .int .i64 b.2]] w fun e w' => e = .returned (.bool (stLess a b)) ∧ Own w0 R w' := by
  obtain ⟨a1, a2⟩ := a
  obtain ⟨b1, b2⟩ := b
  have hs : stLess (a1, a2) (b1, b2) = (decide (a1 < b1) || (decide (a1 = b1) && decide (a2 < b2))) := rfl
  dsimp only
  rw [hs]
  obtain ⟨p1, hb_p1⟩ : ∃ zz_, zz_ = (w).heap.size := ⟨_, rfl⟩
  obtain ⟨w1, hw_w1⟩ : ∃ zz_, zz_ = (w).alloc (.cells #[.int .i64 a1, .int .i64 a2] 32 (0, 0)) := ⟨_, rfl⟩
  have h_H1 := (h).alloc (.cells #[.int .i64 a1, .int .i64 a2] 32 (0, 0))
  rw [← hb_p1, ← hw_w1] at h_H1
  have H1 := Lib.hid h_H1
  clear h_H1
  obtain ⟨p2, hb_p2⟩ : ∃ zz_, zz_ = (w1).heap.size := ⟨_, rfl⟩
  obtain ⟨w2, hw_w2⟩ : ∃ zz_, zz_ = (w1).alloc (.cells #[.int .i64 b1, .int .i64 b2] 32 (0, 0)) := ⟨_, rfl⟩
  have h_H2 := (H1.out).alloc (.cells #[.int .i64 b1, .int .i64 b2] 32 (0, 0))
  rw [← hb_p2, ← hw_w2] at h_H2
  have H2 := Lib.hid h_H2
  clear h_H2
  have HO : Hid (Own w0 (StO p1 (a1, a2) * (StO p2 (b1, b2) * R)) w2) := Lib.hid (H2.out.second.perm (by unfold StO; ac_rfl))
  obtain ⟨x0, x1, _⟩ := HO.out.sto
  obtain ⟨y0, y1, _⟩ := HO.out.second.sto
  simp only at x0 x1 y0 y1
  have HF := Lib.hid HO.out.drop.drop
  clear H1 H2
  have H := Lib.hid h; have HS := Lib.hid hs
  clear h hs
  by_cases h1 : a1 < b1
  · have t1 : decide (a1 < b1) = true := decide_eq_true h1
    rw [t1]
    go_enter Tryd.func70, Tryd.ntmps70
    go_upto_region 1 with fail
    have hq_p2 : p1 + 1 = p2 := by rw [hb_p2, hw_w1, hb_p1, World.size_alloc]
    rw [← hb_p1, hq_p2, ← hw_w1, ← hw_w2]
    clear hq_p2 hb_p1 hb_p2 hw_w1 hw_w2
    go_wp2
    go_ret
    exact ⟨rfl, HF.out⟩
  have t1 : decide (a1 < b1) = false := decide_eq_false h1
  rw [t1]
  by_cases h2 : a1 = b1
  · subst h2
    have t2 : decide (a1 = a1) = true := decide_eq_true rfl
    rw [t2]
    go_enter Tryd.func70, Tryd.ntmps70
    go_upto_region 1 with fail
    have hq_p2 : p1 + 1 = p2 := by rw [hb_p2, hw_w1, hb_p1, World.size_alloc]
    rw [← hb_p1, hq_p2, ← hw_w1, ← hw_w2]
    clear hq_p2 hb_p1 hb_p2 hw_w1 hw_w2
    go_wp2
    go_ret
    exact ⟨rfl, HF.out⟩
  have t2 : decide (a1 = b1) = false := decide_eq_false h2
  have t3 : (a1 == b1) = false := by rw [beq_eq_false_iff_ne]; exact h2
  rw [t2]
  go_enter Tryd.func70, Tryd.ntmps70
  go_upto_region 1 with fail
  have hq_p2 : p1 + 1 = p2 := by rw [hb_p2, hw_w1, hb_p1, World.size_alloc]
  rw [← hb_p1, hq_p2, ← hw_w1, ← hw_w2]
  clear hq_p2 hb_p1 hb_p2 hw_w1 hw_w2
  go_wp2
  go_ret
  exact ⟨rfl, HF.out⟩
set_option maxRecDepth 100000 in
set_option maxHeartbeats 4000000 in
theorem rgCheck_any {w0 w : World} {R : HProp} (q : Nat) (g : Ag) (who word : Int) (h : Own w0 (RgP q g * R) w) :
    Calls Tryd.prog 65 #[.pointer (some ⟨q, 0, none⟩), .int .i64 who, .int .i64 word] w fun e w' => e = .returned (.int .i64 (agChk g who word : Nat)) ∧ w = w' := by
  obtain ⟨cs, rows, he, ho⟩ := h.rg_open
  obtain ⟨c0, c1, _⟩ := ho.rg_cells he
  obtain ⟨N, hN⟩ : ∃ N, N = g.mem.length := ⟨_, rfl⟩
  rw [← hN] at c0
  obtain ⟨E, hE⟩ : ∃ E, E = agChk g who word := ⟨_, rfl⟩
  rw [← hE]
  unfold agChk at hE
  rw [← hN] at hE
  by_cases hb : inR who N = true ∧ isWord word = true
  rotate_left
  · have hE1 : E = 1 := by
      rw [hE]
      cases h1 : inR who N
      · rfl
      cases h2 : isWord word
      · rfl
      exact absurd ⟨h1, h2⟩ hb
    have hcs : who < 0 ∨ (¬ who < 0 ∧ (N : Int) ≤ who) ∨ (¬ who < 0 ∧ ¬ (N : Int) ≤ who ∧ word < 1) ∨ (¬ who < 0 ∧ ¬ (N : Int) ≤ who ∧ ¬ word < 1 ∧ 30 < word) := by
      simp [inR, isWord] at hb; omega
    subst hE1
    clear hE c1
    have H := Lib.hid h; have HO := Lib.hid ho; have HE := Lib.hid he; have HN := Lib.hid hN; have HB := Lib.hid hb
    clear h ho he hN hb
    rcases hcs with h1 | ⟨h1, h2⟩ | ⟨h1, h2, h3⟩ | ⟨h1, h2, h3, h4⟩
    all_goals
      go_enter Tryd.func65, Tryd.ntmps65
      go_wp2
      go_ret
      exact ⟨rfl, rfl⟩
  obtain ⟨hin, hwd⟩ := hb
  rw [hin, hwd, if_neg (by simp), if_neg (by simp)] at hE
  have hib : 0 ≤ who ∧ who < (N : Int) := by unfold inR at hin; simpa using hin
  have hwb : 1 ≤ word ∧ word ≤ 30 := by simpa [isWord] using hwd
  obtain ⟨wn, rfl⟩ : ∃ wn : Nat, word = (wn : Int) := ⟨word.toNat, by omega⟩
  have c2 := c1 wn (by omega)
  unfold agSaid at c2
  obtain ⟨D, hD⟩ : ∃ D, D = (mget g.given (wn : Int)).isSome := ⟨_, rfl⟩
  rw [← hD] at hE c2
  have w0' : (0 : Int) ≤ (wn : Int) := by omega
  have w31 : (wn : Int) < 31 := by omega
  clear c1
  have H := Lib.hid h; have HO := Lib.hid ho; have HE := Lib.hid he; have HN := Lib.hid hN; have HIN := Lib.hid hin; have HWD := Lib.hid hwd; have HD := Lib.hid hD
  clear h ho he hN hin hwd hD
  cases D
  · rw [if_pos rfl] at hE
    subst hE
    go_enter Tryd.func65, Tryd.ntmps65
    go_wp2
    go_ret
    exact ⟨rfl, rfl⟩
  · rw [if_neg (by simp)] at hE
    subst hE
    go_enter Tryd.func65, Tryd.ntmps65
    go_wp2
    go_ret
    exact ⟨rfl, rfl⟩
def selSt (B : Bool) (u s : St) : St := if B = true then u else s
set_option maxRecDepth 100000 in
set_option maxHeartbeats 4000000 in
theorem rgFinal_any {w0 w : World} {R : HProp} (q : Nat) (g G : Ag) (hgv : gvOf G = gvOf g) (hgl : G.mem.length = g.mem.length) (v : Nat) (hv : v < 31) (hI : AgI g) (h2 : 0 < g.mem.length) (h5 : g.mem.length ≤ 5) (h : Own w0 (RgP q G * R) w) :
    Calls Tryd.prog 68 #[.pointer (some ⟨q, 0, none⟩), .int .i64 (v : Int)] w fun e w' => ∃ a b : Int, e = .returned (.tuple #[.agg #[.int .i64 a, .int .i64 b], .bool (decide ((gvOf g (v : Int)).length = g.mem.length))]) ∧ ((gvOf g (v : Int)).length = g.mem.length → (a, b) = maxSt (gvOf g (v : Int))) ∧ Own w0 (RgP q G * R) w' := by
  obtain ⟨b4, hb_b4⟩ : ∃ zz_, zz_ = (w).heap.size := ⟨_, rfl⟩
  obtain ⟨w1, hw_w1⟩ : ∃ zz_, zz_ = (w).alloc (.cells #[.int .i64 0, .int .i64 0] 32 (0, 0)) := ⟨_, rfl⟩
  have h_HB1 := (h).alloc (.cells #[.int .i64 0, .int .i64 0] 32 (0, 0))
  rw [← hb_b4, ← hw_w1] at h_HB1
  have HB1 := Lib.hid h_HB1
  clear h_HB1
  obtain ⟨b6, hb_b6⟩ : ∃ zz_, zz_ = (w1).heap.size := ⟨_, rfl⟩
  obtain ⟨w2, hw_w2⟩ : ∃ zz_, zz_ = (w1).alloc (.cells #[.int .i64 0, .int .i64 0] 32 (0, 0)) := ⟨_, rfl⟩
  have h_HB2 := (HB1.out).alloc (.cells #[.int .i64 0, .int .i64 0] 32 (0, 0))
  rw [← hb_b6, ← hw_w2] at h_HB2
  have HB2 := Lib.hid h_HB2
  clear h_HB2
  have HO : Hid (Own w0 (StO b6 (0, 0) * (StO b4 (0, 0) * (RgP q G * R))) w2) := HB2
  obtain ⟨N, hN⟩ : ∃ N, N = g.mem.length := ⟨_, rfl⟩
  rw [← hN] at h2 h5 ⊢
  have v0 : (0 : Int) ≤ (v : Int) := by omega
  have v31 : (v : Int) < 31 := by omega
  clear HB1 HB2
  have hst : ∀ x y, rgSt G x y = rgSt g x y := fun x y => by unfold rgSt; rw [hgv]
  have hhs : ∀ x y, rgHas G x y = rgHas g x y := fun x y => by unfold rgHas; rw [hgv]
  have H := Lib.hid h; have HN := Lib.hid hN; have HI := Lib.hid hI; have HGV := Lib.hid hgv; have HGL := Lib.hid hgl; have HST := Lib.hid hst; have HHS := Lib.hid hhs
  clear h hN hI hgv hgl hst hhs
  go_enter Tryd.func68, Tryd.ntmps68
  go_upto_region 2 with fail
  have hq_b6 : b4 + 1 = b6 := by rw [hb_b6, hw_w1, hb_b4, World.size_alloc]
  rw [← hb_b4, hq_b6, ← hw_w1, ← hw_w2]
  clear hq_b6 hb_b4 hb_b6 hw_w1 hw_w2
  go_wp2_with fail
  go_loopw [7] (fun iv wr => ∃ i : Nat, i ≤ N ∧ iv = .int .i64 i ∧ Hid ((∀ k, k < i → rgHas g (v : Int) k = true) ∧ Own w0 (StO b6 (finTo (rgSt g (v : Int)) i) * (StO b4 (0, 0) * (RgP q G * R))) wr)) (fun iv _ => N - (intOf iv).toNat)
  case atStart => exact ⟨0, Nat.zero_le _, rfl, Lib.hid ⟨fun k hk => by omega, HO.out⟩⟩
  case round =>
    clear HO
    obtain ⟨i, hi, rfl, HP⟩ := hrel
    have HO := Lib.hid HP.out.2
    have HA := Lib.hid HP.out.1
    clear HP
    obtain ⟨cs, rows, he, ho⟩ := HO.out.third.rg_open
    obtain ⟨c0, _, cst, _⟩ := ho.rg_cells he
    rw [HGL.out, ← HN.out] at c0
    obtain ⟨s, hs⟩ : ∃ s, s = finTo (rgSt g (v : Int)) i := ⟨_, rfl⟩
    rw [← hs] at HO
    have i0 : (0 : Int) ≤ (i : Int) := by omega
    by_cases hlt : i < N
    rotate_left
    · have hiN : i = N := by omega
      have hfull : (gvOf g (v : Int)).length = N := by rw [HN.out]; exact (rg_full HI.out).1 fun k hk => HA.out k (by rw [hiN, HN.out]; exact hk)
      have hmax : s = maxSt (gvOf g (v : Int)) := by rw [hs, hiN, HN.out]; exact fin_full HI.out (by rw [← HN.out]; exact h2) fun k hk => HA.out k (by rw [hiN, HN.out]; exact hk)
      have t1 : decide ((i : Int) < (N : Int)) = false := decide_eq_false (by omega)
      obtain ⟨x0, x1, _⟩ := HO.out.sto
      obtain ⟨_, _, xf⟩ := HO.out.second.sto
      have xf0 := xf 0 none
      have xf1 := xf 1 none
      have HF := Lib.hid (HO.out.second.sto_put s)
      obtain ⟨q0, q1, _⟩ := HF.out.sto
      clear xf cst
      have HE := Lib.hid he; have HO := Lib.hid ho; have HS := Lib.hid hs; have HIN := Lib.hid hiN; have HFULL := Lib.hid hfull; have HMAX := Lib.hid hmax
      clear he ho hs hiN hfull hmax
      go_wp2_with fail
      exact bodyPost_ret (v := .tuple #[.agg #[.int .i64 s.1, .int .i64 s.2], .bool true]) (by simp [results, Tryd.results68, go_sem, q0, q1]) rfl ⟨s.1, s.2, by rw [decide_eq_true HFULL.out], fun _ => HMAX.out, HF.out.drop.drop⟩
    obtain ⟨e1, e2, e3, _⟩ := cst v i hv (by omega)
    rw [HST.out] at e1 e2
    rw [HHS.out] at e3
    have i5 : (i : Int) < 5 := by omega
    have t1 : decide ((i : Int) < (N : Int)) = true := decide_eq_true (by omega)
    obtain ⟨D, hD⟩ : ∃ D, D = rgHas g (v : Int) i := ⟨_, rfl⟩
    rw [← hD] at e3
    cases D
    · have hno : ¬ (gvOf g (v : Int)).length = N := fun hc => by
        rw [HN.out] at hc
        have := (rg_full HI.out).2 hc i (by rw [← HN.out]; exact hlt)
        rw [← hD] at this; cases this
      obtain ⟨x0, x1, _⟩ := HO.out.sto
      obtain ⟨_, _, xf⟩ := HO.out.second.sto
      have xf0 := xf 0 none
      have xf1 := xf 1 none
      have HF := Lib.hid (HO.out.second.sto_put s)
      obtain ⟨q0, q1, _⟩ := HF.out.sto
      clear xf cst
      have HE := Lib.hid he; have HO := Lib.hid ho; have HS := Lib.hid hs; have HNO := Lib.hid hno; have HD := Lib.hid hD
      clear he ho hs hno hD
      go_wp2_with fail
      exact bodyPost_ret (v := .tuple #[.agg #[.int .i64 s.1, .int .i64 s.2], .bool false]) (by simp [results, Tryd.results68, go_sem, q0, q1]) rfl ⟨s.1, s.2, by rw [decide_eq_false HNO.out], fun hc => absurd hc HNO.out, HF.out.drop.drop⟩
    have hnext : ∀ k, k < i + 1 → rgHas g (v : Int) k = true := fun k hk => by
      by_cases e : k = i
      · subst e; exact hD.symm
      · exact HA.out k (by omega)
    obtain ⟨x0, x1, xf⟩ := HO.out.sto
    obtain ⟨u, hu⟩ : ∃ u, u = rgSt g (v : Int) i := ⟨_, rfl⟩
    rw [← hu] at e1 e2
    obtain ⟨B, hB⟩ : ∃ B, B = stLess s u := ⟨_, rfl⟩
    have hfin : finTo (rgSt g (v : Int)) (i + 1) = selSt B u s := by rw [hB, hs, hu]; rfl
    have hrg : Own w0 (rgBlk q cs * (starL rowP rows * (StO b6 s * (StO b4 (0, 0) * R)))) wr := by rw [hs]; exact ho.perm (by ac_rfl)
    have HLS := Lib.hid (rgLess_any s u hrg.drew)
    rw [← hB] at HLS
    clear xf cst ho hrg HO
    have HS := Lib.hid hs; have HD := Lib.hid hD; have HNEXT := Lib.hid hnext; have HU := Lib.hid hu; have HB := Lib.hid hB; have HFIN := Lib.hid hfin; have HE := Lib.hid he
    clear hs hD hnext hu hB hfin he
    go_upto_region 7 with fail
    refine wp_region_tail 9 (by kernel_rfl) (by kernel_rfl) ?_
    simp only [List.take_succ_cons, List.take_zero, List.drop_succ_cons, List.drop_zero]
    repeat still_step
    refine wpStill_nil ?_
    go_wp2_with fail
    refine HLS.out.mono ?_
    rintro e w4 ⟨rfl, ho⟩
    have HO := Lib.hid ho
    obtain ⟨_, _, cst, _⟩ := ho.rg_cells HE.out
    obtain ⟨g1, g2, _⟩ := cst v i hv (by omega)
    rw [HST.out, ← HU.out] at g1 g2
    have h6 : Own w0 (StO b6 s * (StO b4 (0, 0) * (rgBlk q cs * (starL rowP rows * R)))) w4 := ho.perm (by ac_rfl)
    obtain ⟨_, _, xf⟩ := h6.sto
    have xf0 := xf 0 none
    have xf1 := xf 1 none
    have HPUT := Lib.hid (h6.sto_put u)
    have H6 := Lib.hid h6
    clear ho cst h6 xf c0 e1 e2 e3 x0 x1 HLS
    cases B
    · go_wp2_with fail
      go_round
      case rel => exact ⟨i + 1, by omega, by go_num, Lib.hid ⟨HNEXT.out, by rw [HFIN.out]; exact ((H6.out.perm (show _ = rgBlk q cs * (starL rowP rows * (StO b6 s * (StO b4 (0, 0) * R))) by ac_rfl)).rg_close HE.out).perm (show _ = StO b6 s * (StO b4 (0, 0) * (RgP q G * R)) by ac_rfl)⟩⟩
      case measure => simp [intOf]; omega
    · go_wp2_with fail
      go_round
      case rel => exact ⟨i + 1, by omega, by go_num, Lib.hid ⟨HNEXT.out, by rw [HFIN.out]; exact ((HPUT.out.perm (show _ = rgBlk q cs * (starL rowP rows * (StO b6 u * (StO b4 (0, 0) * R))) by ac_rfl)).rg_close HE.out).perm (show _ = StO b6 u * (StO b4 (0, 0) * (RgP q G * R)) by ac_rfl)⟩⟩
      case measure => simp [intOf]; omega
end Go.Proofs.YtpgonkecicmanaaDoor
