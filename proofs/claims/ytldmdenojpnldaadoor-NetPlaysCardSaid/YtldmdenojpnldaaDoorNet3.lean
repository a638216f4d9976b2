/- Contracts of package net, continued: Cut; packets alike; packets as arguments. -/
import Derived.Test.YtldmdenojpnldaaDoorNet2
namespace Go.Proofs.YtldmdenojpnldaaDoor
set_option linter.unusedVariables false
set_option linter.unusedSimpArgs false
open Go.RowKit Go.Maps
theorem nt_cut_put {w0 w : World} {p mb : Nat} {v : Value} {s : Nt} {R : HProp} (x : Int × Int) (h : Own w0 (Mp plV plOk mb (mput (setW s.cut) x (.bool true)) * (ntBlk p mb v * (PkSl v s.all * R))) w) : Own w0 (NtP p { s with cut := wayPut s.cut x } * R) w := by
  rw [mput_setW] at h
  exact Own.nt_close (mb := mb) (v := v) (h.perm (by unfold NtO WMp; ac_rfl))
theorem nt_cut_del {w0 w : World} {p mb : Nat} {v : Value} {s : Nt} {R : HProp} (x : Int × Int) (h : Own w0 (Mp plV plOk mb (mdel (setW s.cut) x) * (ntBlk p mb v * (PkSl v s.all * R))) w) : Own w0 (NtP p { s with cut := wayDel s.cut x } * R) w := by
  rw [mdel_setW] at h
  exact Own.nt_close (mb := mb) (v := v) (h.perm (by unfold NtO WMp; ac_rfl))
set_option maxRecDepth 100000 in
set_option maxHeartbeats 4000000 in
theorem ntCut_any {w0 w : World} {R : HProp} (p : Nat) (s : Nt) (a b : Int) (is : Bool) (h : Own w0 (NtP p s * R) w) :
    Calls Tryd.prog 19 #[.pointer (some ⟨p, 0, none⟩), .int .i64 a, .int .i64 b, .bool is] w fun e w' => e = .returned (errV (ntCutErr a b)) ∧ Own w0 (NtP p (ntCut s a b is) * R) w' := by
  obtain ⟨E, hE⟩ : ∃ E, E = ntCutErr a b := ⟨_, rfl⟩
  obtain ⟨S, hS⟩ : ∃ S, S = ntCut s a b is := ⟨_, rfl⟩
  rw [← hE, ← hS]
  unfold ntCut at hS
  rw [← hE] at hS
  unfold ntCutErr at hE
  cases hma : isMember a
  · rw [hma, if_pos rfl] at hE
    subst hE
    rw [if_neg (by decide)] at hS
    subst hS
    have HMA := Lib.hid hma; have H := Lib.hid h
    clear hma h
    go_enter Tryd.func19, Tryd.ntmps19
    go_wp2_with fail
    refine (member_any _ _).mono ?_
    rintro e w' ⟨rfl, rfl⟩
    rw [HMA.out]
    go_wp2
    go_ret
    exact ⟨rfl, H.out⟩
  rw [hma, if_neg (show ¬ true = false by simp)] at hE
  cases hmb : isMember b
  · rw [hmb, if_pos rfl] at hE
    subst hE
    rw [if_neg (by decide)] at hS
    subst hS
    have HMA := Lib.hid hma; have HMB := Lib.hid hmb; have H := Lib.hid h
    clear hma hmb h
    go_enter Tryd.func19, Tryd.ntmps19
    go_wp2_with fail
    refine (member_any _ _).mono ?_
    rintro e w' ⟨rfl, rfl⟩
    rw [HMA.out]
    go_wp2_with fail
    refine (member_any _ _).mono ?_
    rintro e w' ⟨rfl, rfl⟩
    rw [HMB.out]
    go_wp2
    go_ret
    exact ⟨rfl, H.out⟩
  rw [hmb, if_neg (show ¬ true = false by simp)] at hE
  by_cases hab : a = b
  · rw [if_pos hab] at hE
    subst hE
    rw [if_neg (by decide)] at hS
    subst hS
    have t1 : (a == b) = true := by simpa using hab
    have HMA := Lib.hid hma; have HMB := Lib.hid hmb; have HAB := Lib.hid hab; have H := Lib.hid h
    clear hma hmb hab h
    go_enter Tryd.func19, Tryd.ntmps19
    go_wp2_with fail
    refine (member_any _ _).mono ?_
    rintro e w' ⟨rfl, rfl⟩
    rw [HMA.out]
    go_wp2_with fail
    refine (member_any _ _).mono ?_
    rintro e w' ⟨rfl, rfl⟩
    rw [HMB.out]
    go_wp2
    go_ret
    exact ⟨rfl, H.out⟩
  rw [if_neg hab] at hE
  subst hE
  rw [if_pos rfl] at hS
  have t1 : (a == b) = false := by simpa using hab
  have hway := way_ok hma hmb
  obtain ⟨mb, ad, cap, h3, h4, ho⟩ := h.nt_open
  obtain ⟨c0, c1, cf⟩ := ho.drew.nt_facts
  obtain ⟨k, hk⟩ : ∃ x, x = wayOf a b := ⟨_, rfl⟩
  rw [← hk] at hway hS
  obtain ⟨ka, kb⟩ := k
  have HOD := Lib.hid ho.drew
  cases is
  · rw [if_neg (by simp)] at hS
    have HMA := Lib.hid hma; have HMB := Lib.hid hmb; have HAB := Lib.hid hab; have H := Lib.hid h; have HWAY := Lib.hid hway; have HO := Lib.hid ho; have CF := Lib.hid cf; have HK := Lib.hid hk; have HS := Lib.hid hS
    clear hma hmb hab h hway ho cf hk hS
    go_enter Tryd.func19, Tryd.ntmps19
    go_wp2_with fail
    refine (member_any _ _).mono ?_
    rintro e w' ⟨rfl, rfl⟩
    rw [HMA.out]
    go_wp2_with fail
    refine (member_any _ _).mono ?_
    rintro e w' ⟨rfl, rfl⟩
    rw [HMB.out]
    go_upto_region 1 with fail
    refine wp_region_planH 7 [] [(true, 0), (true, 1), (true, 2), (true, 3), (true, 4), (true, 5), (false, 6)] [7] (fun wS => wS.cell? ⟨p, 1, none⟩ = some (.map (some mb))) (by kernel_rfl) (by kernel_rfl) (c1) ?_
    simp only [pickH, pick, List.getElem?_cons_succ, List.getElem?_cons_zero, Option.toList, Option.map_some, List.cons_append, List.nil_append]
    repeat (refine wpPure_step ?_ rfl ?_ ?_; rotate_left; (focus (intro _; first | with_reducible rfl | (go_simp; done) | (go_simp; with_reducible rfl) | rfl)); go_simp)
    refine wpPure_nil ?_
    repeat (refine wpMix_read ?_ rfl ?_ ?_; rotate_left; (focus (intro _ hS; obtain s1 := hS; first | with_reducible rfl | (go_simp; done) | (go_simp; with_reducible rfl) | rfl)); go_simp)
    refine wpMix_write (fun K hK => ?_)
    go_simp
    refine (between_any a b HOD.out).mono ?_
    rintro e w4 ⟨rfl, ho4⟩
    rw [← HK.out]
    unfold plV
    dsimp only
    clear c0 c1
    have c1 := ho4.nt_facts.2.1
    have HO4 := Lib.hid ho4
    clear ho4
    refine hK _ _ ⟨c1, ?_⟩
    clear hK K
    go_simp
    refine wpMix_nil ?_
    go_wp2_with (refine wpList_del nway_ke mapw_kind HO4.out.nt_cut HWAY.out rfl _ _ rfl rfl rfl ?_; intro w5 ho5; have HO5 := Lib.hid (nt_cut_del _ ho5); rw [← HS.out] at HO5; clear ho5)
    refine NoPanic.normal ?_
    go_wp2
    go_ret
    exact ⟨rfl, HO5.out⟩
  · rw [if_pos rfl] at hS
    have HMA := Lib.hid hma; have HMB := Lib.hid hmb; have HAB := Lib.hid hab; have H := Lib.hid h; have HWAY := Lib.hid hway; have HO := Lib.hid ho; have CF := Lib.hid cf; have HK := Lib.hid hk; have HS := Lib.hid hS
    clear hma hmb hab h hway ho cf hk hS
    go_enter Tryd.func19, Tryd.ntmps19
    go_wp2_with fail
    refine (member_any _ _).mono ?_
    rintro e w' ⟨rfl, rfl⟩
    rw [HMA.out]
    go_wp2_with fail
    refine (member_any _ _).mono ?_
    rintro e w' ⟨rfl, rfl⟩
    rw [HMB.out]
    go_upto_region 7 with fail
    refine wp_region_planH 7 [] [(true, 0), (true, 1), (true, 2), (true, 3), (true, 4), (true, 5), (false, 6)] [7] (fun wS => wS.cell? ⟨p, 1, none⟩ = some (.map (some mb))) (by kernel_rfl) (by kernel_rfl) (c1) ?_
    simp only [pickH, pick, List.getElem?_cons_succ, List.getElem?_cons_zero, Option.toList, Option.map_some, List.cons_append, List.nil_append]
    repeat (refine wpPure_step ?_ rfl ?_ ?_; rotate_left; (focus (intro _; first | with_reducible rfl | (go_simp; done) | (go_simp; with_reducible rfl) | rfl)); go_simp)
    refine wpPure_nil ?_
    repeat (refine wpMix_read ?_ rfl ?_ ?_; rotate_left; (focus (intro _ hS; obtain s1 := hS; first | with_reducible rfl | (go_simp; done) | (go_simp; with_reducible rfl) | rfl)); go_simp)
    refine wpMix_write (fun K hK => ?_)
    go_simp
    refine (between_any a b HOD.out).mono ?_
    rintro e w4 ⟨rfl, ho4⟩
    rw [← HK.out]
    unfold plV
    dsimp only
    clear c0 c1
    have c1 := ho4.nt_facts.2.1
    have HO4 := Lib.hid ho4
    clear ho4
    refine hK _ _ ⟨c1, ?_⟩
    clear hK K
    go_simp
    refine wpMix_nil ?_
    go_wp2_with (at_mapUpdate; refine wpList_put (v := .bool true) (x := (ka, kb)) nway_ke mapw_kind HO4.out.nt_cut HWAY.out rfl _ _ _ rfl rfl rfl rfl ?_; intro w5 ho5; have HO5 := Lib.hid (nt_cut_put _ ho5); rw [← HS.out] at HO5; clear ho5)
    refine NoPanic.normal ?_
    go_wp2
    go_ret
    exact ⟨rfl, HO5.out⟩
set_option maxRecDepth 100000 in
set_option maxHeartbeats 4000000 in
theorem samePk_any {w : World} (va vb : Value) (l : List Ev) (ha : Evs w va l) (hb : Evs w vb l) :
    Calls Tryd.prog 24 #[va, vb] w fun e w' => e = .returned (.bool true) ∧ ∃ n, w' = w.drewN n := by
  obtain ⟨ad, cap, rfl, hac, hacap⟩ := ha.shape
  obtain ⟨bd, bcap, rfl, hbc, hbcap⟩ := hb.shape
  obtain ⟨n, hn⟩ : ∃ n, n = l.length := ⟨_, rfl⟩
  rw [← hn] at ha hb hac hbc ⊢
  have hl' : ((n : Int) != (n : Int)) = false := by rw [bne_eq_false_iff_eq]
  have HRA := Lib.hid (ha.reads (R := emp))
  have HRB := Lib.hid (hb.reads (R := emp))
  have HA := Lib.hid ha; have HB := Lib.hid hb; have HN := Lib.hid hn
  clear ha hb hn
  go_enter Tryd.func24, Tryd.ntmps24
  go_wp2_with fail
  go_loopw [5] (fun iv wr => ∃ k : Nat, k ≤ n ∧ iv = .int .i64 k ∧ Hid (∃ j, wr = w.drewN j)) (fun iv _ => n - (intOf iv).toNat)
  case atStart => exact ⟨0, Nat.zero_le _, rfl, Lib.hid ⟨0, rfl⟩⟩
  case round =>
    obtain ⟨k, hk, rfl, hp⟩ := hrel
    obtain ⟨j, rfl⟩ := hp.out
    by_cases hlt : k < n
    rotate_left
    · have hkn : k = n := by omega
      subst hkn
      go_wp2
      go_ret
      exact ⟨rfl, _, rfl⟩
    obtain ⟨a, eb, eo, es, rfl, e1, hc, _⟩ := HRA.out.at (Own.start w) k (by rw [← HN.out]; exact hlt)
    obtain ⟨a', eb', eo', es', rfl, e1', hc', _⟩ := HRB.out.at (Own.start w) k (by rw [← HN.out]; exact hlt)
    obtain ⟨x, hx⟩ : ∃ x, x = evAt l k := ⟨_, rfl⟩
    rw [← hx] at hc hc'
    obtain ⟨c0, c1, c2⟩ := hc _ (Own.start w)
    obtain ⟨c0', c1', c2'⟩ := hc' _ (Own.start w)
    clear hc hc'
    have HX := Lib.hid hx
    clear hx
    go_wp2_with fail
    go_quiet (fail)
    go_wp2
    go_roundw
    case rel => exact ⟨k + 1, by omega, by go_num, Lib.hid ⟨_, rfl⟩⟩
    case measure => simp [intOf]; omega
end Go.Proofs.YtldmdenojpnldaaDoor
