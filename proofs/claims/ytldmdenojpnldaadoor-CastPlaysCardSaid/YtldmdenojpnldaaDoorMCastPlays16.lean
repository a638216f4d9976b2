/- Contracts of package cast, continued: Say. -/
import Derived.Test.YtldmdenojpnldaaDoorMCastPlays15
import Derived.Test.YtldmdenojpnldaaDoorMCastPlays10
import Derived.Test.YtldmdenojpnldaaDoorMCastPlays14
namespace Go.Proofs.YtldmdenojpnldaaDoor
set_option linter.unusedVariables false
set_option linter.unusedSimpArgs false
open Go.RowKit Go.Maps
theorem csPk_succ (n : Nat) (who word : Int) : csPk (n + 1) who word = csPk n who word ++ (if (n : Int) ≠ who then [(who, (n : Int), word)] else []) := by
  unfold csPk
  rw [List.range_succ, List.filter_append, List.map_append]
  congr 1
  by_cases h : (n : Int) ≠ who
  · rw [if_pos h]; simp [h]
  · rw [if_neg h]; simp at h; simp [h]
theorem csPk_le (n : Nat) (who word : Int) : ∀ k, k ≤ n → (csPk k who word).length ≤ (csPk n who word).length := by
  induction n with
  | zero => intro k hk; rw [show k = 0 by omega]; exact Nat.le_refl _
  | succ n ih =>
    intro k hk
    by_cases h : k = n + 1
    · rw [h]; exact Nat.le_refl _
    · refine Nat.le_trans (ih k (by omega)) ?_
      rw [csPk_succ, List.length_append]
      exact Nat.le_add_right _ _
/-- The net while packets of a word are sent. -/
def csNet (c : Cs) (k : Nat) (who word : Int) : Nt := ⟨c.net.all ++ csPk k who word, c.net.cut⟩
theorem csNet_I {c : Cs} (hI : CsI c) {who word : Int} (he : csSayErr c who word = 0) {k : Nat} (hk : k ≤ c.mem.length) : NtI (csNet c k who word) := by
  have h1 := (hI.say who word).net
  unfold csSay at h1
  rw [if_pos he] at h1
  obtain ⟨b1, _, b3, b4, _⟩ := csSayErr0 he
  have hle := csPk_le c.mem.length who word k hk
  refine ⟨?_, fun p hp => ?_, hI.net.nd, hI.net.mem⟩
  · have := h1.len
    simp only [csNet, List.length_append] at this ⊢
    omega
  · rcases List.mem_append.1 hp with hp | hp
    · exact hI.net.ok p hp
    · obtain ⟨d1, d2, d3, d4, d5⟩ := csPk_mem hp
      have := hI.n5
      have hw := (csSayErr0 he).2.1
      refine pkErr_ok ?_ ?_ (by rw [d2]; exact hw) (by rw [d1]; exact fun e => d5 e.symm)
      · rw [d1]; simp [isMember]; omega
      · simp [isMember]; omega
theorem csNet_send {c : Cs} (hI : CsI c) {who word : Int} (he : csSayErr c who word = 0) {k : Nat} (hk : k < c.mem.length) (hne : (k : Int) ≠ who) :
    ntErr (csNet c k who word) (who, (k : Int), word) = 0 ∧ ntSend (csNet c k who word) (who, (k : Int), word) = csNet c (k + 1) who word := by
  have h1 := csNet_I hI he (k := k + 1) (by omega)
  have e : (csNet c (k + 1) who word).all = (csNet c k who word).all ++ [(who, (k : Int), word)] := by
    unfold csNet
    rw [csPk_succ, if_pos hne, List.append_assoc]
  have h2 := h1.len
  rw [e, List.length_append] at h2
  simp only [List.length_singleton] at h2
  have h0 : ntErr (csNet c k who word) (who, (k : Int), word) = 0 := by
    unfold ntErr
    have := h1.ok (who, (k : Int), word) (by rw [e]; simp)
    rw [if_neg (by rw [this]; simp), if_neg (by omega)]
  refine ⟨h0, ?_⟩
  unfold ntSend
  rw [if_pos h0, ← e]
  rfl
theorem csNet_skip {c : Cs} {who word : Int} {k : Nat} (h : (k : Int) = who) : csNet c (k + 1) who word = csNet c k who word := by
  unfold csNet
  rw [csPk_succ, if_neg (by rw [h]; simp), List.append_nil]
section
variable {w0 w : World} {p rb off cap nb sb : Nat} {hv : Value} {rs : List CmR} {ss : List SRow} {c : Cs} {R : HProp}
theorem csIs_some (he : csIs rs ss c) (x : Int) : (mget ss x).isSome = (mget c.said x).isSome := by
  rw [← he.2, mget_mvals]; cases mget ss x <;> rfl
theorem csIs_get (he : csIs rs ss c) (x : Int) : ((mget ss x).getD nilSdR).2 = csSd c x := by
  unfold csSd
  rw [← he.2, mget_mvals]; cases mget ss x <;> rfl
theorem Own.cs_look (h : Own w0 (CsO p rb off cap nb sb hv rs ss c * R) w) (x : Int) (hx : I64 x) (cm : Bool) :
    (Instr.lookup 144 (.map (some sb)) (.int .i64 x) cm).run Tryd.prog w = .ok (if cm then .tuple #[sdV ((mget ss x).getD nilSdR), .bool (mget ss x).isSome] else sdV ((mget ss x).getD nilSdR)) w := by
  have h1 := (h.cs_map.perm (show _ = Mp sK I64 sb (mvals sdV ss) * _ by unfold MpS; rw [star_assoc])).map_look (int_ke int_kind) mapsd_kind sd_zero hx cm
  rw [mget_val sdV ss x nilSdR, mget_mvals, Option.isSome_map] at h1
  exact h1
theorem Own.cs_len (h : Own w0 (CsO p rb off cap nb sb hv rs ss c * R) w) (ty : TypeId) : (Builtin.len_ #[144] ty #[.map (some sb)]).run Tryd.prog w = .ok (.int .i64 ss.length) w := by
  have h1 := (h.cs_map.perm (show _ = Mp sK I64 sb (mvals sdV ss) * _ by unfold MpS; rw [star_assoc])).map_len mapsd_kind ty
  rw [mvals_len] at h1
  exact h1
/-- One member out of its group. -/
def CsX (p rb off cap nb sb : Nat) (hv : Value) (rs : List CmR) (ss : List SRow) (c : Cs) (k : Nat) : HProp :=
  SlAt 52 1 rb off rs.length cap (rs.map cmV) * (starL cmP (rs.eraseIdx k) * (csHd p nb sb (.slice (some ⟨rb, off, none⟩) rs.length cap) hv * (NtP nb c.net * (MpS sK I64 sdRow sdV sb ss * EvSl hv c.hist))))
theorem Own.cs_take {k : Nat} (hk : k < rs.length) (h : Own w0 (CsO p rb off cap nb sb hv rs ss c * R) w) : Own w0 (CwP rs[k].1 rs[k].2 * (CsX p rb off cap nb sb hv rs ss c k * R)) w :=
  (h.cs_tab.tab_take hk).perm (by unfold CsX cmP; ac_rfl)
theorem cs_mem_set {k : Nat} (hk : k < rs.length) (m : Ca) : (rs.set k (rs[k].1, m)).map cmV = rs.map cmV := by
  rw [List.map_set]
  have : cmV (rs[k].1, m) = (rs.map cmV)[k]'(by simpa using hk) := by simp [cmV]
  rw [this, List.set_getElem_self]
end
/-- The store of a word in the group's map. -/
theorem Own.cs_mapput {w0 w : World} {sb : Nat} {ss : List SRow} {x : Int} {r : SdR} {Q : HProp} (hno : mget ss x = none) (h : Own w0 (Mp sK I64 sb (mput (mvals sdV ss) x (sdV r)) * (starL (fun p : Int × SdR => sdRow p.2) ss * (sdRow r * Q))) w) : Own w0 (MpS sK I64 sdRow sdV sb (mput ss x r) * Q) w := by
  refine h.perm ?_
  unfold MpS
  have hm : mput ss x r = ss ++ [(x, r)] := mput_new (mget_none.1 hno)
  rw [mput_mvals, hm, starL_snoc]
  ac_rfl
set_option maxRecDepth 100000 in
set_option maxHeartbeats 4000000 in
theorem csSay_no {w0 w : World} {R : HProp} (p : Nat) (c : Cs) (who word : Int) (hI : CsI c) (hE : csSayErr c who word = 1 ∨ csSayErr c who word = 7) (h : Own w0 (CsP p c * R) w) :
    Calls Tryd.prog 37 #[.pointer (some ⟨p, 0, none⟩), .int .i64 who, .int .i64 word] w fun e w' => e = .returned (errV (csSayErr c who word)) ∧ Own w0 (CsP p c * R) w' := by
  obtain ⟨rb, off, cap, nb, sb, hv, rs, ss, he, ho⟩ := h.cs_open
  obtain ⟨c0, c1, c2, c3, _, _, hc1, hc2⟩ := ho.cs_facts
  have hn2 := hI.n2
  have hn5 := hI.n5
  rw [← csIs_len he] at hn2 hn5
  obtain ⟨N, hN⟩ : ∃ N, N = rs.length := ⟨_, rfl⟩
  rw [← hN] at c0 hn2 hn5 hc1
  have hNm : c.mem.length = N := by rw [← csIs_len he, hN]
  obtain ⟨E, hE'⟩ : ∃ E, E = csSayErr c who word := ⟨_, rfl⟩
  rw [← hE'] at hE ⊢
  unfold csSayErr at hE'
  rw [hNm] at hE'
  by_cases hw0 : who < 0
  · have hE1 : E = 1 := by rw [hE', if_pos (by unfold inR; simp; omega)]
    have t1 : decide (who < 0) = true := decide_eq_true hw0
    subst hE1
    clear hE'
    have H := Lib.hid h; have HI := Lib.hid hI; have HE := Lib.hid hE; have HO := Lib.hid ho; have HE := Lib.hid he; have HN := Lib.hid hN; have HNM := Lib.hid hNm; have HW0 := Lib.hid hw0
    clear h hI hE ho he hN hNm hw0
    go_enter Tryd.func37, Tryd.ntmps37
    go_wp2
    go_ret
    exact ⟨rfl, H.out⟩
  have t1 : decide (who < 0) = false := decide_eq_false hw0
  by_cases hwn : (N : Int) ≤ who
  · have hE1 : E = 1 := by rw [hE', if_pos (by unfold inR; simp; omega)]
    have t2 : decide ((N : Int) ≤ who) = true := decide_eq_true hwn
    subst hE1
    clear hE'
    have H := Lib.hid h; have HI := Lib.hid hI; have HE := Lib.hid hE; have HO := Lib.hid ho; have HE := Lib.hid he; have HN := Lib.hid hN; have HNM := Lib.hid hNm; have HW0 := Lib.hid hw0; have HWN := Lib.hid hwn
    clear h hI hE ho he hN hNm hw0 hwn
    go_enter Tryd.func37, Tryd.ntmps37
    go_wp2
    go_ret
    exact ⟨rfl, H.out⟩
  have t2 : decide ((N : Int) ≤ who) = false := decide_eq_false hwn
  rw [if_neg (by unfold inR; simp; omega)] at hE'
  cases hwd : isWord word
  · rw [if_pos hwd] at hE'
    subst hE'
    have H := Lib.hid h; have HI := Lib.hid hI; have HE := Lib.hid hE; have HO := Lib.hid ho; have HE := Lib.hid he; have HN := Lib.hid hN; have HNM := Lib.hid hNm; have HW0 := Lib.hid hw0; have HWN := Lib.hid hwn; have HWD := Lib.hid hwd
    clear h hI hE ho he hN hNm hw0 hwn hwd
    go_enter Tryd.func37, Tryd.ntmps37
    go_wp2_with fail
    refine (word_any _ _).mono ?_
    rintro e w' ⟨rfl, rfl⟩
    rw [HWD.out]
    go_wp2
    go_ret
    exact ⟨rfl, H.out⟩
  rw [if_neg (by rw [hwd]; simp)] at hE'
  cases hsm : (mget c.said word).isSome
  · rw [hsm, if_neg (by simp)] at hE'
    exfalso
    split at hE' <;> omega
  rw [hsm, if_pos rfl] at hE'
  have hlk := ho.cs_look word (isWord_I64 hwd) true
  rw [csIs_some he, hsm, if_pos rfl] at hlk
  obtain ⟨r, hr⟩ : ∃ r, r = (mget ss word).getD nilSdR := ⟨_, rfl⟩
  rw [← hr] at hlk
  unfold sdV at hlk
  obtain ⟨rv, rsd⟩ := r
  dsimp only at hlk
  have hrow : Own w0 (sdRow ((mget ss word).getD nilSdR) * _) w := (ho.cs_map.ms_take nilSdR sdRow_nil word)
  rw [← hr] at hrow
  obtain ⟨ad, cp, hrv⟩ := Own.int_shape hrow
  dsimp only at hrv
  rw [hrv] at hlk
  subst hE'
  clear hrow hr
  have H := Lib.hid h; have HI := Lib.hid hI; have HE := Lib.hid hE; have HO := Lib.hid ho; have HE := Lib.hid he; have HN := Lib.hid hN; have HNM := Lib.hid hNm; have HW0 := Lib.hid hw0; have HWN := Lib.hid hwn; have HWD := Lib.hid hwd; have HSM := Lib.hid hsm
  clear h hI hE ho he hN hNm hw0 hwn hwd hsm
  go_enter Tryd.func37, Tryd.ntmps37
  go_wp2_with fail
  refine (word_any _ _).mono ?_
  rintro e w' ⟨rfl, rfl⟩
  rw [HWD.out]
  go_wp2
  go_ret
  exact ⟨rfl, H.out.alloc' _⟩
end Go.Proofs.YtldmdenojpnldaaDoor
/- Contracts of package net, continued: Cut; packets alike; packets as arguments. -/
namespace Go.Proofs.YtldmdenojpnldaaDoor
set_option linter.unusedVariables false
set_option linter.unusedSimpArgs false
open Go.RowKit Go.Maps
theorem nt_cut_put {w0 w : World} {p mb : Nat} {v : Value} {s : Nt} {R : HProp} (x : Int × Int) (h : Own w0 (Mp plV plOk mb (mput (setW s.cut) x (.bool true)) * (ntBlk p mb v * (PkSl v s.all * R))) w) : Own w0 (NtP p { s with cut := wayPut s.cut x } * R) w := by
  rw [mput_setW] at h
  exact Own.nt_close (mb := mb) (v := v) (h.perm (by unfold NtO WMp; ac_rfl))
theorem nt_cut_del {w0 w : World} {p mb : Nat} {v : Value} {s : Nt} {R : HProp} (x : Int × Int) (h : Own w0 (Mp plV plOk mb (mdel (setW s.cut) x) * (ntBlk p mb v * (PkSl v s.all * R))) w) : Own w0 (NtP p { s with cut := wayDel s.cut x } * R) w := by
  rw [mdel_setW] at h
  exact Own.nt_close (mb := mb) (v := v) (h.perm (by unfold NtO WMp; ac_rfl))
set_option maxRecDepth 100000 in
set_option maxHeartbeats 4000000 in
theorem ntCut_any {w0 w : World} {R : HProp} (p : Nat) (s : Nt) (a b : Int) (is : Bool) (h : Own w0 (NtP p s * R) w) :
    Calls Tryd.prog 19 #[.pointer (some ⟨p, 0, none⟩), .int .i64 a, .int .i64 b, .bool is] w fun e w' => e = .returned (errV (ntCutErr a b)) ∧ Own w0 (NtP p (ntCut s a b is) * R) w' := by
  obtain ⟨E, hE⟩ : ∃ E, E = ntCutErr a b := ⟨_, rfl⟩
  obtain ⟨S, hS⟩ : ∃ S, S = ntCut s a b is := ⟨_, rfl⟩
  rw [← hE, ← hS]
  unfold ntCut at hS
  rw [← hE] at hS
  unfold ntCutErr at hE
  cases hma : isMember a
  · rw [hma, if_pos rfl] at hE
    subst hE
    rw [if_neg (by decide)] at hS
    subst hS
    have HMA := Lib.hid hma; have H := Lib.hid h
    clear hma h
    go_enter Tryd.func19, Tryd.ntmps19
    go_wp2_with fail
    refine (member_any _ _).mono ?_
    rintro e w' ⟨rfl, rfl⟩
    rw [HMA.out]
    go_wp2
    go_ret
    exact ⟨rfl, H.out⟩
  rw [hma, if_neg (show ¬ true = false by simp)] at hE
  cases hmb : isMember b
  · rw [hmb, if_pos rfl] at hE
    subst hE
    rw [if_neg (by decide)] at hS
    subst hS
    have HMA := Lib.hid hma; have HMB := Lib.hid hmb; have H := Lib.hid h
    clear hma hmb h
    go_enter Tryd.func19, Tryd.ntmps19
    go_wp2_with fail
    refine (member_any _ _).mono ?_
    rintro e w' ⟨rfl, rfl⟩
    rw [HMA.out]
    go_wp2_with fail
    refine (member_any _ _).mono ?_
    rintro e w' ⟨rfl, rfl⟩
    rw [HMB.out]
    go_wp2
    go_ret
    exact ⟨rfl, H.out⟩
  rw [hmb, if_neg (show ¬ true = false by simp)] at hE
  by_cases hab : a = b
  · rw [if_pos hab] at hE
    subst hE
    rw [if_neg (by decide)] at hS
    subst hS
    have t1 : (a == b) = true := by simpa using hab
    have HMA := Lib.hid hma; have HMB := Lib.hid hmb; have HAB := Lib.hid hab; have H := Lib.hid h
    clear hma hmb hab h
    go_enter Tryd.func19, Tryd.ntmps19
    go_wp2_with fail
    refine (member_any _ _).mono ?_
    rintro e w' ⟨rfl, rfl⟩
    rw [HMA.out]
    go_wp2_with fail
    refine (member_any _ _).mono ?_
    rintro e w' ⟨rfl, rfl⟩
    rw [HMB.out]
    go_wp2
    go_ret
    exact ⟨rfl, H.out⟩
  rw [if_neg hab] at hE
  subst hE
  rw [if_pos rfl] at hS
  have t1 : (a == b) = false := by simpa using hab
  have hway := way_ok hma hmb
  obtain ⟨mb, ad, cap, h3, h4, ho⟩ := h.nt_open
  obtain ⟨c0, c1, cf⟩ := ho.drew.nt_facts
  obtain ⟨k, hk⟩ : ∃ x, x = wayOf a b := ⟨_, rfl⟩
  rw [← hk] at hway hS
  obtain ⟨ka, kb⟩ := k
  have HOD := Lib.hid ho.drew
  cases is
  · rw [if_neg (by simp)] at hS
    have HMA := Lib.hid hma; have HMB := Lib.hid hmb; have HAB := Lib.hid hab; have H := Lib.hid h; have HWAY := Lib.hid hway; have HO := Lib.hid ho; have CF := Lib.hid cf; have HK := Lib.hid hk; have HS := Lib.hid hS
    clear hma hmb hab h hway ho cf hk hS
    go_enter Tryd.func19, Tryd.ntmps19
    go_wp2_with fail
    refine (member_any _ _).mono ?_
    rintro e w' ⟨rfl, rfl⟩
    rw [HMA.out]
    go_wp2_with fail
    refine (member_any _ _).mono ?_
    rintro e w' ⟨rfl, rfl⟩
    rw [HMB.out]
    go_upto_region 1 with fail
    refine wp_region_planH 7 [] [(true, 0), (true, 1), (true, 2), (true, 3), (true, 4), (true, 5), (false, 6)] [7] (fun wS => wS.cell? ⟨p, 1, none⟩ = some (.map (some mb))) (by kernel_rfl) (by kernel_rfl) (c1) ?_
    simp only [pickH, pick, List.getElem?_cons_succ, List.getElem?_cons_zero, Option.toList, Option.map_some, List.cons_append, List.nil_append]
    repeat (refine wpPure_step ?_ rfl ?_ ?_; rotate_left; (focus (intro _; first | with_reducible rfl | (go_simp; done) | (go_simp; with_reducible rfl) | rfl)); go_simp)
    refine wpPure_nil ?_
    repeat (refine wpMix_read ?_ rfl ?_ ?_; rotate_left; (focus (intro _ hS; obtain s1 := hS; first | with_reducible rfl | (go_simp; done) | (go_simp; with_reducible rfl) | rfl)); go_simp)
    refine wpMix_write (fun K hK => ?_)
    go_simp
    refine (between_any a b HOD.out).mono ?_
    rintro e w4 ⟨rfl, ho4⟩
    rw [← HK.out]
    unfold plV
    dsimp only
    clear c0 c1
    have c1 := ho4.nt_facts.2.1
    have HO4 := Lib.hid ho4
    clear ho4
    refine hK _ _ ⟨c1, ?_⟩
    clear hK K
    go_simp
    refine wpMix_nil ?_
    go_wp2_with (refine wpList_del nway_ke mapw_kind HO4.out.nt_cut HWAY.out rfl _ _ rfl rfl rfl ?_; intro w5 ho5; have HO5 := Lib.hid (nt_cut_del _ ho5); rw [← HS.out] at HO5; clear ho5)
    refine NoPanic.normal ?_
    go_wp2
    go_ret
    exact ⟨rfl, HO5.out⟩
  · rw [if_pos rfl] at hS
    have HMA := Lib.hid hma; have HMB := Lib.hid hmb; have HAB := Lib.hid hab; have H := Lib.hid h; have HWAY := Lib.hid hway; have HO := Lib.hid ho; have CF := Lib.hid cf; have HK := Lib.hid hk; have HS := Lib.hid hS
    clear hma hmb hab h hway ho cf hk hS
    go_enter Tryd.func19, Tryd.ntmps19
    go_wp2_with fail
    refine (member_any _ _).mono ?_
    rintro e w' ⟨rfl, rfl⟩
    rw [HMA.out]
    go_wp2_with fail
    refine (member_any _ _).mono ?_
    rintro e w' ⟨rfl, rfl⟩
    rw [HMB.out]
    go_upto_region 7 with fail
    refine wp_region_planH 7 [] [(true, 0), (true, 1), (true, 2), (true, 3), (true, 4), (true, 5), (false, 6)] [7] (fun wS => wS.cell? ⟨p, 1, none⟩ = some (.map (some mb))) (by kernel_rfl) (by kernel_rfl) (c1) ?_
    simp only [pickH, pick, List.getElem?_cons_succ, List.getElem?_cons_zero, Option.toList, Option.map_some, List.cons_append, List.nil_append]
    repeat (refine wpPure_step ?_ rfl ?_ ?_; rotate_left; (focus (intro _; first | with_reducible rfl | (go_simp; done) | (go_simp; with_reducible rfl) | rfl)); go_simp)
    refine wpPure_nil ?_
    repeat (refine wpMix_read ?_ rfl ?_ ?_; rotate_left; (focus (intro _ hS; obtain s1 := hS; first | with_reducible rfl | (go_simp; done) | (go_simp; with_reducible rfl) | rfl)); go_simp)
    refine wpMix_write (fun K hK => ?_)
    go_simp
    refine (between_any a b HOD.out).mono ?_
    rintro e w4 ⟨rfl, ho4⟩
    rw [← HK.out]
    unfold plV
    dsimp only
    clear c0 c1
    have c1 := ho4.nt_facts.2.1
    have HO4 := Lib.hid ho4
    clear ho4
    refine hK _ _ ⟨c1, ?_⟩
    clear hK K
    go_simp
    refine wpMix_nil ?_
    go_wp2_with (at_mapUpdate; refine wpList_put (v := .bool true) (x := (ka, kb)) nway_ke mapw_kind HO4.out.nt_cut HWAY.out rfl _ _ _ rfl rfl rfl rfl ?_; intro w5 ho5; have HO5 := Lib.hid (nt_cut_put _ ho5); rw [← HS.out] at HO5; clear ho5)
    refine NoPanic.normal ?_
    go_wp2
    go_ret
    exact ⟨rfl, HO5.out⟩
set_option maxRecDepth 100000 in
set_option maxHeartbeats 4000000 in
theorem samePk_any {w : World} (va vb : Value) (l : List Ev) (ha : Evs w va l) (hb : Evs w vb l) :
    Calls Tryd.prog 24 #[va, vb] w fun e w' => e = .returned (.bool true) ∧ ∃ n, w' = w.drewN n := by
  obtain ⟨ad, cap, rfl, hac, hacap⟩ := ha.shape
  obtain ⟨bd, bcap, rfl, hbc, hbcap⟩ := hb.shape
  obtain ⟨n, hn⟩ : ∃ n, n = l.length := ⟨_, rfl⟩
  rw [← hn] at ha hb hac hbc ⊢
  have hl' : ((n : Int) != (n : Int)) = false := by rw [bne_eq_false_iff_eq]
  have HRA := Lib.hid (ha.reads (R := emp))
  have HRB := Lib.hid (hb.reads (R := emp))
  have HA := Lib.hid ha; have HB := Lib.hid hb; have HN := Lib.hid hn
  clear ha hb hn
  go_enter Tryd.func24, Tryd.ntmps24
  go_wp2_with fail
  go_loopw [5] (fun iv wr => ∃ k : Nat, k ≤ n ∧ iv = .int .i64 k ∧ Hid (∃ j, wr = w.drewN j)) (fun iv _ => n - (intOf iv).toNat)
  case atStart => exact ⟨0, Nat.zero_le _, rfl, Lib.hid ⟨0, rfl⟩⟩
  case round =>
    obtain ⟨k, hk, rfl, hp⟩ := hrel
    obtain ⟨j, rfl⟩ := hp.out
    by_cases hlt : k < n
    rotate_left
    · have hkn : k = n := by omega
      subst hkn
      go_wp2
      go_ret
      exact ⟨rfl, _, rfl⟩
    obtain ⟨a, eb, eo, es, rfl, e1, hc, _⟩ := HRA.out.at (Own.start w) k (by rw [← HN.out]; exact hlt)
    obtain ⟨a', eb', eo', es', rfl, e1', hc', _⟩ := HRB.out.at (Own.start w) k (by rw [← HN.out]; exact hlt)
    obtain ⟨x, hx⟩ : ∃ x, x = evAt l k := ⟨_, rfl⟩
    rw [← hx] at hc hc'
    obtain ⟨c0, c1, c2⟩ := hc _ (Own.start w)
    obtain ⟨c0', c1', c2'⟩ := hc' _ (Own.start w)
    clear hc hc'
    have HX := Lib.hid hx
    clear hx
    go_wp2_with fail
    go_quiet (fail)
    go_wp2
    go_roundw
    case rel => exact ⟨k + 1, by omega, by go_num, Lib.hid ⟨_, rfl⟩⟩
    case measure => simp [intOf]; omega
end Go.Proofs.YtldmdenojpnldaaDoor
/- The reference's net: Send, Out, Give. -/
namespace Go.Proofs.YtldmdenojpnldaaDoor
set_option linter.unusedVariables false
set_option linter.unusedSimpArgs false
open Go.RowKit Go.Maps
/-- The reference's table of ways that are cut. -/
def RnIs (s : Nt) (B : List Bool) : Prop := B.length = 25 ∧ ∀ a b : Nat, a < 5 → b < 5 → a ≠ b → B[5 * a + b]? = some (decide (wayOf a b ∈ s.cut))
abbrev rnBlk (p : Nat) (v : Value) (B : List Bool) : HProp := blk p (.cells (v :: B.map Value.bool).toArray 44 (0, 0))
def RnO (p : Nat) (v : Value) (B : List Bool) (s : Nt) : HProp := rnBlk p v B * PkSl v s.all
def RnP (p : Nat) (s : Nt) : HProp := hex fun x : Value × List Bool => pur (RnIs s x.2) * RnO p x.1 x.2 s
theorem Own.rn_open {w0 w : World} {p : Nat} {s : Nt} {R : HProp} (h : Own w0 (RnP p s * R) w) : ∃ ad cap B, RnIs s B ∧ s.all.length ≤ cap ∧ cap ≤ 9223372036854775807 ∧ Own w0 (RnO p (.slice ad s.all.length cap) B s * R) w := by
  obtain ⟨⟨v, B⟩, h⟩ := Own.ex h
  rw [star_assoc] at h
  obtain ⟨hB, h⟩ := Own.pur_out h
  have h2 : Own w0 (PkSl v s.all * (rnBlk p v B * R)) w := h.perm (by unfold RnO; ac_rfl)
  obtain ⟨ad, cap, rfl, h3, h4, _⟩ := Own.rd h2
  exact ⟨ad, cap, B, hB, h3, by unfold maxLen at h4; omega, h⟩
theorem Own.rn_close {w0 w : World} {p : Nat} {v : Value} {B : List Bool} {s : Nt} {R : HProp} (hB : RnIs s B) (h : Own w0 (RnO p v B s * R) w) : Own w0 (RnP p s * R) w := by
  refine Own.ex_mk (v, B) ?_
  rw [star_assoc]
  exact Own.pur_mk hB h
section
variable {w0 w : World} {p : Nat} {v : Value} {B : List Bool} {s : Nt} {R : HProp}
theorem Own.rn_blk (h : Own w0 (RnO p v B s * R) w) : Own w0 (rnBlk p v B * (PkSl v s.all * R)) w := h.perm (by unfold RnO; ac_rfl)
theorem Own.rn_all (h : Own w0 (RnO p v B s * R) w) : Own w0 (PkSl v s.all * (rnBlk p v B * R)) w := h.perm (by unfold RnO; ac_rfl)
theorem Own.rn_facts (h : Own w0 (RnO p v B s * R) w) : w.cell? ⟨p, 0, none⟩ = some v ∧ (∀ i t, w.frozen? ⟨p, i, t⟩ = false) ∧ ∀ (i : Nat) x, B[i]? = some x → w.cell? ⟨p, 1 + i, none⟩ = some (.bool x) := by
  refine ⟨(h.rn_blk.cell 0).trans rfl, fun i t => h.rn_blk.free i t, fun i x hx => ?_⟩
  rw [h.rn_blk.cell]
  simp [Nat.add_comm 1 i, hx]
end
theorem rn_app {w0 w : World} {p : Nat} {v v' : Value} {B : List Bool} {s : Nt} {q : Ev} {L : Nat} {R : HProp} (hB : RnIs s B) (hL : L = s.all.length)
    (h : Own w0 (Sl 23 3 v' (L + 1) (s.all.flatMap evCells ++ evCells q) * (rnBlk p v B * R)) w) : Own w0 (RnP p { s with all := s.all ++ [q] } * R) (w.setCell ⟨p, 0, none⟩ v') := by
  subst hL
  have h1 := h.second.setCell (i := 0) (v := v')
  refine Own.rn_close (v := v') (B := B) hB (h1.perm ?_)
  unfold RnO PkSl rnBlk
  rw [List.length_append, List.flatMap_append]
  simp only [List.length_singleton, List.flatMap_cons, List.flatMap_nil, List.append_nil]
  show (blk p (.cells (v' :: B.map Value.bool).toArray 44 (0, 0)) * _ : HProp) = _
  ac_rfl
/-- What the reference asks of a packet. -/
def pkT (a b d : Int) : Bool := decide (a < 0) || (decide (4 < a) || (decide (b < 0) || (decide (4 < b) || (decide (d < 1) || decide (30 < d)))))
theorem pkErr_is (a b d : Int) : pkErr (a, b, d) = if pkT a b d = true then 1 else if a = b then 3 else 0 := by
  unfold pkErr
  simp only
  by_cases h : pkT a b d = true
  · rw [if_pos h]
    unfold pkT at h
    simp only [Bool.or_eq_true, decide_eq_true_eq] at h
    cases h1 : isMember a
    · rw [if_pos rfl]
    rw [if_neg (by simp)]
    cases h2 : isMember b
    · rw [if_pos rfl]
    rw [if_neg (by simp)]
    cases h3 : isWord d
    · rw [if_pos rfl]
    simp [isMember, isWord] at h1 h2 h3
    omega
  · rw [if_neg h]
    unfold pkT at h
    simp only [Bool.or_eq_true, decide_eq_true_eq] at h
    have h1 : isMember a = true := by simp [isMember]; omega
    have h2 : isMember b = true := by simp [isMember]; omega
    have h3 : isWord d = true := by simp [isWord]; omega
    rw [h1, h2, h3, if_neg (by simp), if_neg (by simp), if_neg (by simp)]
set_option maxRecDepth 100000 in
set_option maxHeartbeats 4000000 in
theorem rnSend_any {w0 w : World} {R : HProp} (p : Nat) (s : Nt) (q : Ev) (hI : NtI s) (h : Own w0 (RnP p s * R) w) :
    Calls Tryd.prog 21 #[.pointer (some ⟨p, 0, none⟩), evV q] w fun e w' => e = .returned (.int .i64 (ntErr s q)) ∧ Own w0 (RnP p (ntSend s q) * R) w' := by
  obtain ⟨a, b, d⟩ := q
  obtain ⟨E, hE⟩ : ∃ E, E = ntErr s (a, b, d) := ⟨_, rfl⟩
  obtain ⟨S, hS⟩ : ∃ S, S = ntSend s (a, b, d) := ⟨_, rfl⟩
  rw [← hE, ← hS]
  unfold ntSend at hS
  rw [← hE] at hS
  unfold ntErr at hE
  rw [pkErr_is] at hE
  unfold evV
  dsimp only
  obtain ⟨ad, cap, B, hB, h3, h4, ho0⟩ := h.rn_open
  obtain ⟨b1, hb_b1⟩ : ∃ zz_, zz_ = (w).heap.size := ⟨_, rfl⟩
  obtain ⟨w1, hw_w1⟩ : ∃ zz_, zz_ = (w).alloc (.cells #[.int .i64 a, .int .i64 b, .int .i64 d] 23 (0, 0)) := ⟨_, rfl⟩
  have h_HO := (ho0).alloc (.cells #[.int .i64 a, .int .i64 b, .int .i64 d] 23 (0, 0))
  rw [← hb_b1, ← hw_w1] at h_HO
  have HO := Lib.hid h_HO
  clear h_HO
  have HO1 : Hid (Own w0 (RnO p (.slice ad s.all.length cap) B s * (PkO b1 (a, b, d) * R)) w1) := Lib.hid HO.out.second
  obtain ⟨x0, x1, x2⟩ := HO1.out.second.pk
  obtain ⟨c0, cf, _⟩ := HO1.out.rn_facts
  simp only at x0 x1 x2
  have fin : ∀ w', Own w0 (RnO p (.slice ad s.all.length cap) B s * (PkO b1 (a, b, d) * R)) w' → Own w0 (RnP p s * R) w' := fun w' ho => ho.second.drop.rn_close hB
  have hlen := hI.len
  obtain ⟨L, hL⟩ : ∃ L, L = s.all.length := ⟨_, rfl⟩
  rw [← hL] at hlen h3 c0 HO1 fin hE
  clear h ho0 HO
  have HL := Lib.hid hL; have FIN := Lib.hid fin; have CF := Lib.hid cf; have HI := Lib.hid hI; have HB := Lib.hid hB
  clear hL fin cf hI hB
  obtain ⟨T, hT⟩ : ∃ T, T = pkT a b d := ⟨_, rfl⟩
  rw [← hT] at hE
  go_enter Tryd.func21, Tryd.ntmps21
  go_upto_region 1 with fail
  rw [← hb_b1, ← hw_w1]
  clear hb_b1 hw_w1
  go_cut [32] (fun v wx => v = .bool T ∧ wx = w1)
  case first =>
    go_wp2_with fail
    all_goals
      go_meet
      refine ⟨?_, rfl⟩
      rw [hT]
      unfold pkT
      try simp only [*, decide_true, Bool.true_or, Bool.false_or, Bool.or_false, Bool.or_true]
      try (rw [decide_eq_false (show ¬ a < 0 by omega), decide_eq_false (show ¬ 4 < a by omega), decide_eq_false (show ¬ b < 0 by omega), decide_eq_false (show ¬ 4 < b by omega), decide_eq_false (show ¬ d < 1 by omega)]; rfl)
  case rest =>
  obtain ⟨rfl, rfl⟩ := hcut
  clear hT
  cases T
  rotate_left
  · rw [if_pos rfl, if_pos (by decide)] at hE
    subst hE
    rw [if_neg (by decide)] at hS
    subst hS
    go_wp2
    go_ret
    exact ⟨rfl, FIN.out _ HO1.out⟩
  rw [if_neg (show ¬ false = true by simp)] at hE
  by_cases hab : a = b
  · rw [if_pos hab, if_pos (by decide)] at hE
    subst hE
    rw [if_neg (by decide)] at hS
    subst hS
    have t1 : (a == b) = true := by simpa using hab
    have HAB := Lib.hid hab
    clear hab
    go_wp2
    go_ret
    exact ⟨rfl, FIN.out _ HO1.out⟩
  rw [if_neg hab, if_neg (by simp)] at hE
  have t1 : (a == b) = false := by simpa using hab
  by_cases h40 : 40 ≤ L
  · rw [if_pos h40] at hE
    subst hE
    rw [if_neg (by decide)] at hS
    subst hS
    have t2 : decide ((40 : Int) ≤ (L : Int)) = true := decide_eq_true (by omega)
    have HAB := Lib.hid hab
    clear hab
    go_wp2
    go_ret
    exact ⟨rfl, FIN.out _ HO1.out⟩
  rw [if_neg h40] at hE
  subst hE
  rw [if_pos rfl] at hS
  have t2 : decide ((40 : Int) ≤ (L : Int)) = false := decide_eq_false (by omega)
  have HOA : Hid (Own w0 (Sl 23 3 (.slice ad L cap) L (s.all.flatMap evCells) * (rnBlk p (.slice ad L cap) B * (PkO b1 (a, b, d) * R))) wc) := Lib.hid (HO1.out.rn_all.perm (by unfold PkSl; rw [← HL.out]))
  have HAB := Lib.hid hab; have HS := Lib.hid hS
  clear hab hS
  go_upto_region 7 with fail
  refine wp_region_planH 10 [] [(true, 0), (true, 1), (true, 2), (true, 3), (true, 4), (true, 5), (false, 6), (false, 7), (true, 8), (true, 9)] [10] (fun wS => wS.cell? ⟨p, 0, none⟩ = some (.slice ad L cap) ∧ wS.cell? ⟨b1, 0, none⟩ = some (.int .i64 a) ∧ wS.cell? ⟨b1, 1, none⟩ = some (.int .i64 b) ∧ wS.cell? ⟨b1, 2, none⟩ = some (.int .i64 d)) (by kernel_rfl) (by kernel_rfl) (⟨c0, x0, x1, x2⟩) ?_
  simp only [pickH, pick, List.getElem?_cons_succ, List.getElem?_cons_zero, Option.toList, Option.map_some, List.cons_append, List.nil_append]
  repeat (refine wpPure_step ?_ rfl ?_ ?_; rotate_left; (focus (intro _; first | with_reducible rfl | (go_simp; done) | (go_simp; with_reducible rfl) | rfl)); go_simp)
  refine wpPure_nil ?_
  repeat (refine wpMix_read ?_ rfl ?_ ?_; rotate_left; (focus (intro _ hS; obtain ⟨s1, s2, s3, s4⟩ := hS; first | with_reducible rfl | (go_simp; done) | (go_simp; with_reducible rfl) | rfl)); go_simp)
  refine wpMix_write (fun K hK => ?_)
  go_simp
  obtain ⟨b2, hb_b2⟩ : ∃ zz_, zz_ = (wc).heap.size := ⟨_, rfl⟩
  obtain ⟨w2, hw_w2⟩ : ∃ zz_, zz_ = (wc).alloc (.cells #[.int .i64 a, .int .i64 b, .int .i64 d] 23 (0, 0)) := ⟨_, rfl⟩
  have h_HB2 := (HOA.out).alloc (.cells #[.int .i64 a, .int .i64 b, .int .i64 d] 23 (0, 0))
  rw [← hb_b2, ← hw_w2] at h_HB2
  have HB2 := Lib.hid h_HB2
  clear h_HB2
  rw [← hb_b2, ← hw_w2]
  clear hb_b2 hw_w2
  have HB3 : Hid (Own w0 (Sl 23 3 (.slice ad L cap) L (s.all.flatMap evCells) * (rnBlk p (.slice ad L cap) B * (PkO b1 (a, b, d) * (PkO b2 (a, b, d) * R)))) w2.drew) := Lib.hid (HB2.out.drew.perm (by unfold PkO; ac_rfl))
  clear HB2 HOA c0 x0 x1 x2
  have c0 : w2.drew.cell? ⟨p, 0, none⟩ = some (.slice ad L cap) := (HB3.out.second.cell 0).trans rfl
  obtain ⟨x0, x1, x2⟩ := HB3.out.third.pk
  simp only at x0 x1 x2
  refine hK _ _ ⟨⟨c0, x0, x1, x2⟩, ?_⟩
  clear hK K
  go_simp
  refine wpMix_write (fun K hK => ?_)
  have hsrc : Rd w2.drew (.slice (some ⟨b2, 0, none⟩) 1 1) 1 [.int .i64 a, .int .i64 b, .int .i64 d] := Rd_one (fun i u hi => by
    rw [HB3.out.fourth.cell]
    match i, hi with
    | 0, hi => exact hi
    | 1, hi => exact hi
    | 2, hi => exact hi) (Nat.le_refl _) (by unfold maxLen; omega)
  refine step_app rfl _ _ 26 rfl 23 3 24 _ info_pk Tryd.underlying26 rfl (by decide) (by rfl) HB3.out (by rfl) (by rfl) hsrc (by intro u hu; simp at hu; rcases hu with rfl | rfl | rfl <;> rfl) (by unfold maxLen; omega) (by omega) ?_
  intro v5 w5 ho5
  obtain ⟨ad5, cp5, hv5, _⟩ := Own.rd ho5
  subst hv5
  clear c0 x0 x1 x2 hsrc
  have c0 : w5.cell? ⟨p, 0, none⟩ = some (.slice ad L cap) := (ho5.second.cell 0).trans rfl
  have f0 := ho5.second.free 0 none
  obtain ⟨x0, x1, x2⟩ := ho5.third.pk
  simp only at x0 x1 x2
  have HF := Lib.hid (rn_app (q := (a, b, d)) HB.out HL.out ho5)
  rw [← HS.out] at HF
  clear ho5
  refine hK _ _ ⟨⟨c0, x0, x1, x2⟩, ?_⟩
  clear hK K
  go_simp
  repeat (refine wpMix_read ?_ rfl ?_ ?_; rotate_left; (focus (intro _ hS; obtain ⟨s1, s2, s3, s4⟩ := hS; first | with_reducible rfl | (go_simp; done) | (go_simp; with_reducible rfl) | rfl)); go_simp)
  refine wpMix_nil ?_
  go_wp2_with fail
  refine NoPanic.normal ?_
  go_wp2
  go_ret
  exact ⟨rfl, HF.out.second.drop.second.drop⟩
end Go.Proofs.YtldmdenojpnldaaDoor
/- The reference's net, continued: Out, Give. -/
namespace Go.Proofs.YtldmdenojpnldaaDoor
set_option linter.unusedVariables false
set_option linter.unusedSimpArgs false
open Go.RowKit Go.Maps
theorem Rd.front_of {w : World} {ad : Option Addr} {len cp n sz : Nat} {xs : List Value} (h : Rd w (.slice ad len cp) len xs) (hn : n ≤ len) : Rd w (.slice ad n cp) n (xs.take (n * sz)) := by
  obtain ⟨ad', cp', e, h1, h2, h3, h4⟩ := h
  injection e with e1 e2 e3
  subst e1; subst e3
  refine ⟨ad, cp, rfl, by omega, h2, h3, fun i u hi => h4 i u ?_⟩
  rw [List.getElem?_take] at hi
  split at hi
  · exact hi
  · cases hi
theorem Rd.back_of {w : World} {b off len cp n sz : Nat} {xs : List Value} {A : Addr} (hA : (if cp = n then (⟨b, off, none⟩ : Addr) else ⟨b, off + n * sz, none⟩) = A) (hx : xs.length = len * sz) (h : Rd w (.slice (some ⟨b, off, none⟩) len cp) len xs) (hn : n ≤ len) :
    Rd w (.slice (some A) (len - n) (cp - n)) (len - n) (xs.drop (n * sz)) := by
  obtain ⟨ad', cp', e, h1, h2, h3, h4⟩ := h
  injection e with e1 e2 e3
  subst e1; subst e3
  refine ⟨some A, _, rfl, by omega, by omega, (fun hc => by cases hc), fun i u hi => ?_⟩
  rw [List.getElem?_drop] at hi
  have hlt : n * sz + i < xs.length := (List.getElem?_eq_some_iff.1 hi).1
  obtain ⟨a, ha, hc⟩ := h4 _ _ hi
  cases ha
  by_cases hcn : cp = n
  · have : len = n := by omega
    subst this
    omega
  · rw [if_neg hcn] at hA
    subst hA
    refine ⟨_, rfl, ?_⟩
    rw [Addr.add_lit] at hc ⊢
    rw [Nat.add_assoc]; exact hc
theorem Own.rn_at {w0 w : World} {p i : Nat} {v : Value} {B : List Bool} {s : Nt} {R : HProp} (hi : i < s.all.length) (h : Own w0 (RnO p v B s * R) w) :
    ∃ b off cap, v = .slice (some ⟨b, off, none⟩) s.all.length cap ∧ s.all.length ≤ cap ∧ cap ≤ 9223372036854775807 ∧ w.cell? ⟨b, off + i * 3, none⟩ = some (.int .i64 (ntAt s i).1) ∧ w.cell? ⟨b, off + i * 3 + 1, none⟩ = some (.int .i64 (ntAt s i).2.1) ∧ w.cell? ⟨b, off + i * 3 + 2, none⟩ = some (.int .i64 (ntAt s i).2.2) := by
  have hl : (s.all.flatMap evCells).length = s.all.length * 3 := cells_len evCells 3 (fun _ => rfl) _
  obtain ⟨b, off, cap, hv, h2⟩ := h.rn_all.slAt (by omega)
  obtain ⟨h3, h4, _, hc, _⟩ := h2.slAt_facts
  have hx : ntAt s i = s.all[i] := by
    unfold ntAt
    rw [List.getD_eq_getElem?_getD, Int.toNat_natCast, List.getElem?_eq_getElem hi]; rfl
  rw [hx]
  refine ⟨b, off, cap, hv, h3, by unfold maxLen at h4; omega, ?_, ?_, ?_⟩
  · exact hc (i * 3) _ (ev_get s.all i 0 hi (by omega))
  · rw [Nat.add_assoc]; exact hc (i * 3 + 1) _ (ev_get s.all i 1 hi (by omega))
  · rw [Nat.add_assoc]; exact hc (i * 3 + 2) _ (ev_get s.all i 2 hi (by omega))
theorem rn_out_end {w0 w : World} {p i L n : Nat} {v v' : Value} {B : List Bool} {s : Nt} {R Q : HProp} (hB : RnIs s B) (hi : i < s.all.length) (hL : L = s.all.length) (hn : n + 1 = L)
    (h : Own w0 (Sl 23 3 v' n ((s.all.flatMap evCells).take (i * 3) ++ (s.all.flatMap evCells).drop ((i + 1) * 3)) * (Q * (rnBlk p v B * R))) w) : Own w0 (RnP p (ntOut s i) * R) (w.setCell ⟨p, 0, none⟩ v') := by
  rw [← cells_erase evCells 3 (fun _ => rfl) s.all i hi] at h
  have h1 := (h.third.setCell (i := 0) (v := v'))
  have h2 := h1.third.drop
  refine Own.rn_close (s := ntOut s i) (v := v') (B := B) hB (h2.perm ?_)
  unfold RnO PkSl rnBlk ntOut
  simp only
  rw [Int.toNat_natCast, List.length_eraseIdx_of_lt hi, show n = s.all.length - 1 by omega]
  show (blk p (.cells (v' :: B.map Value.bool).toArray 44 (0, 0)) * _ : HProp) = _
  ac_rfl
set_option maxRecDepth 100000 in
set_option maxHeartbeats 4000000 in
theorem rnOut_any {w0 w : World} {R : HProp} (p : Nat) (s : Nt) (k : Nat) (hk : k < s.all.length) (hI : NtI s) (h : Own w0 (RnP p s * R) w) :
    Calls Tryd.prog 23 #[.pointer (some ⟨p, 0, none⟩), .int .i64 (k : Int)] w fun e w' => e = .returned (.tuple #[]) ∧ Own w0 (RnP p (ntOut s k) * R) w' := by
  obtain ⟨ad, cap0, B, hB, h3, h4, ho⟩ := h.rn_open
  obtain ⟨c0, cf, _⟩ := ho.rn_facts
  obtain ⟨b, off, cap, hv, h5, h6, _⟩ := ho.rn_at hk
  injection hv with ev1 _ ev3
  subst ev1; subst ev3
  have hlen := hI.len
  have hxl : (s.all.flatMap evCells).length = s.all.length * 3 := cells_len evCells 3 (fun _ => rfl) _
  have hho : Own w0 (Sl 23 3 (.slice none 0 0) 0 [] * (PkSl (.slice (some ⟨b, off, none⟩) s.all.length cap0) s.all * (rnBlk p (.slice (some ⟨b, off, none⟩) s.all.length cap0) B * R))) w := ho.rn_all.sl_nil _ _
  have hrd : Rd w (.slice (some ⟨b, off, none⟩) s.all.length cap0) s.all.length (s.all.flatMap evCells) := Own.rd ho.rn_all
  obtain ⟨L, hL⟩ : ∃ L, L = s.all.length := ⟨_, rfl⟩
  rw [← hL] at hk hlen h3 h5 c0 hxl
  have hhc : Own w0 (Sl 23 3 (.slice none 0 0) 0 [] * (Sl 23 3 (.slice (some ⟨b, off, none⟩) L cap0) L (s.all.flatMap evCells) * (rnBlk p (.slice (some ⟨b, off, none⟩) L cap0) B * R))) w := by rw [hL]; exact hho
  rw [← hL] at hrd
  obtain ⟨X, hX⟩ : ∃ X, X = s.all.flatMap evCells := ⟨_, rfl⟩
  have hone : ∀ u ∈ X, u.oneCell' = true := by rw [hX]; exact ev_one _
  have hfin : ∀ w' v' n, n + 1 = L → Own w0 (Sl 23 3 v' n (X.take (k * 3) ++ X.drop ((k + 1) * 3)) * (Sl 23 3 (.slice (some ⟨b, off, none⟩) L cap0) L X * (rnBlk p (.slice (some ⟨b, off, none⟩) L cap0) B * R))) w' → Own w0 (RnP p (ntOut s k) * R) (w'.setCell ⟨p, 0, none⟩ v') := fun w' v' n hn h' => by
    rw [hX] at h'
    exact rn_out_end hB (by omega) hL hn h'
  rw [← hX] at hhc hrd hxl
  have hr1 := hrd.front_of (sz := 3) (n := k) (by omega)
  obtain ⟨A, hA⟩ : ∃ A, (if cap0 = k + 1 then (⟨b, off, none⟩ : Addr) else ⟨b, off + (k + 1) * 3, none⟩) = A := ⟨_, rfl⟩
  have hk' : k + 1 ≤ L := by omega
  have hc1 := fun w => cut3_back (P := Tryd.prog) Tryd.underlying26 packet_size (b := b) (off := off) (show k ≤ L by omega) h3 w
  have hc2 := fun w => cut3_front (P := Tryd.prog) Tryd.underlying26 packet_size (b := b) (off := off) (cp := cap0) (n := k) hk' w
  rw [hA] at hc2
  have ht : (X.take (k * 3)).length = k * 3 := by rw [List.length_take]; omega
  have hd : (X.drop ((k + 1) * 3)).length = (L - (k + 1)) * 3 := by rw [List.length_drop]; omega
  have ho1 : ∀ u ∈ X.take (k * 3), u.oneCell' = true := fun u hu => hone u (List.mem_of_mem_take hu)
  have ho2 : ∀ u ∈ X.drop ((k + 1) * 3), u.oneCell' = true := fun u hu => hone u (List.mem_of_mem_drop hu)
  clear h ho hho hrd
  have HAA := Lib.hid hA
  clear hA
  have HI := Lib.hid hI; have HL := Lib.hid hL; have HX := Lib.hid hX; have HFIN := Lib.hid hfin; have HHC := Lib.hid hhc; have HR1 := Lib.hid hr1; have HXL := Lib.hid hxl; have HT := Lib.hid ht; have HD := Lib.hid hd; have HO1 := Lib.hid ho1; have HO2 := Lib.hid ho2; have HONE := Lib.hid hone; have HB := Lib.hid hB; have CF := Lib.hid cf
  clear hI hL hX hfin hhc hr1 hxl ht hd ho1 ho2 hone hB cf
  go_enter Tryd.func23, Tryd.ntmps23
  go_upto_region 2 with (at_builtin; refine wpList_app rfl _ _ 26 rfl 23 3 24 _ info_pk Tryd.underlying26 rfl (by decide) rfl HHC.out rfl HT.out HR1.out HO1.out (by unfold maxLen; omega) (by omega) ?_; intro v1 w1 ho1; rw [Nat.zero_add, List.nil_append] at ho1; obtain ⟨ad1, cp1, hv1, _⟩ := Own.rd ho1; subst hv1; clear c0; have c0 : w1.cell? ⟨p, 0, none⟩ = some (.slice (some ⟨b, off, none⟩) L cap0) := (ho1.third.cell 0).trans rfl; have HW1 := Lib.hid ho1; have HR2 := Lib.hid (Rd.back_of HAA.out HXL.out (Own.rd ho1.second) hk'); clear ho1)
  go_wp2_with (at_builtin; refine wpList_app rfl _ _ 26 rfl 23 3 24 _ info_pk Tryd.underlying26 rfl (by decide) rfl HW1.out rfl HD.out HR2.out HO2.out (by unfold maxLen; omega) (by omega) ?_; intro v2 w2 ho2; obtain ⟨ad2, cp2, hv2, _⟩ := Own.rd ho2; subst hv2; clear c0; have c0 : w2.cell? ⟨p, 0, none⟩ = some (.slice (some ⟨b, off, none⟩) L cap0) := (ho2.third.cell 0).trans rfl; have f0 := ho2.third.free 0 none; have HW2 := Lib.hid (HFIN.out _ _ _ (by omega) ho2); clear ho2)
  refine bodyPost_end (results_none rfl _ _ _) rfl ⟨rfl, HW2.out⟩
end Go.Proofs.YtldmdenojpnldaaDoor
