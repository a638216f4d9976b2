/- Contracts of package cast, continued: Say. -/
import Derived.Test.YtldmdenojpnldaaDoorMCastCausal17
import Derived.Test.YtldmdenojpnldaaDoorMCastCausal7
import Derived.Test.YtldmdenojpnldaaDoorMCastCausal2
import Derived.LaidEql
import Derived.Stop.Asserts
import Derived.RowKitTokens
namespace Go.Proofs.YtldmdenojpnldaaDoor
set_option linter.unusedVariables false
set_option linter.unusedSimpArgs false
open Go.RowKit Go.Maps
theorem csPk_succ (n : Nat) (who word : Int) : csPk (n + 1) who word = csPk n who word ++ (if (n : Int) ≠ who then [(who, (n : Int), word)] else []) := by
  unfold csPk
  rw [List.range_succ, List.filter_append, List.map_append]
  congr 1
  by_cases h : (n : Int) ≠ who
  · rw [if_pos h]; simp [h]
  · rw [if_neg h]; simp at h; simp [h]
theorem csPk_le (n : Nat) (who word : Int) : ∀ k, k ≤ n → (csPk k who word).length ≤ (csPk n who word).length := by
  induction n with
  | zero => intro k hk; rw [show k = 0 by omega]; exact Nat.le_refl _
  | succ n ih =>
    intro k hk
    by_cases h : k = n + 1
    · rw [h]; exact Nat.le_refl _
    · refine Nat.le_trans (ih k (by omega)) ?_
      rw [csPk_succ, List.length_append]
      exact Nat.le_add_right _ _
/-- The net while packets of a word are sent. -/
def csNet (c : Cs) (k : Nat) (who word : Int) : Nt := ⟨c.net.all ++ csPk k who word, c.net.cut⟩
theorem csNet_I {c : Cs} (hI : CsI c) {who word : Int} (he : csSayErr c who word = 0) {k : Nat} (hk : k ≤ c.mem.length) : NtI (csNet c k who word) := by
  have h1 := (hI.say who word).net
  unfold csSay at h1
  rw [if_pos he] at h1
  obtain ⟨b1, _, b3, b4, _⟩ := csSayErr0 he
  have hle := csPk_le c.mem.length who word k hk
  refine ⟨?_, fun p hp => ?_, hI.net.nd, hI.net.mem⟩
  · have := h1.len
    simp only [csNet, List.length_append] at this ⊢
    omega
  · rcases List.mem_append.1 hp with hp | hp
    · exact hI.net.ok p hp
    · obtain ⟨d1, d2, d3, d4, d5⟩ := csPk_mem hp
      have := hI.n5
      have hw := (csSayErr0 he).2.1
      refine pkErr_ok ?_ ?_ (by rw [d2]; exact hw) (by rw [d1]; exact fun e => d5 e.symm)
      · rw [d1]; simp [isMember]; omega
      · simp [isMember]; omega
theorem csNet_send {c : Cs} (hI : CsI c) {who word : Int} (he : csSayErr c who word = 0) {k : Nat} (hk : k < c.mem.length) (hne : (k : Int) ≠ who) :
    ntErr (csNet c k who word) (who, (k : Int), word) = 0 ∧ ntSend (csNet c k who word) (who, (k : Int), word) = csNet c (k + 1) who word := by
  have h1 := csNet_I hI he (k := k + 1) (by omega)
  have e : (csNet c (k + 1) who word).all = (csNet c k who word).all ++ [(who, (k : Int), word)] := by
    unfold csNet
    rw [csPk_succ, if_pos hne, List.append_assoc]
  have h2 := h1.len
  rw [e, List.length_append] at h2
  simp only [List.length_singleton] at h2
  have h0 : ntErr (csNet c k who word) (who, (k : Int), word) = 0 := by
    unfold ntErr
    have := h1.ok (who, (k : Int), word) (by rw [e]; simp)
    rw [if_neg (by rw [this]; simp), if_neg (by omega)]
  refine ⟨h0, ?_⟩
  unfold ntSend
  rw [if_pos h0, ← e]
  rfl
theorem csNet_skip {c : Cs} {who word : Int} {k : Nat} (h : (k : Int) = who) : csNet c (k + 1) who word = csNet c k who word := by
  unfold csNet
  rw [csPk_succ, if_neg (by rw [h]; simp), List.append_nil]
section
variable {w0 w : World} {p rb off cap nb sb : Nat} {hv : Value} {rs : List CmR} {ss : List SRow} {c : Cs} {R : HProp}
theorem csIs_some (he : csIs rs ss c) (x : Int) : (mget ss x).isSome = (mget c.said x).isSome := by
  rw [← he.2, mget_mvals]; cases mget ss x <;> rfl
theorem csIs_get (he : csIs rs ss c) (x : Int) : ((mget ss x).getD nilSdR).2 = csSd c x := by
  unfold csSd
  rw [← he.2, mget_mvals]; cases mget ss x <;> rfl
theorem Own.cs_look (h : Own w0 (CsO p rb off cap nb sb hv rs ss c * R) w) (x : Int) (hx : I64 x) (cm : Bool) :
    (Instr.lookup 144 (.map (some sb)) (.int .i64 x) cm).run Tryd.prog w = .ok (if cm then .tuple #[sdV ((mget ss x).getD nilSdR), .bool (mget ss x).isSome] else sdV ((mget ss x).getD nilSdR)) w := by
  have h1 := (h.cs_map.perm (show _ = Mp sK I64 sb (mvals sdV ss) * _ by unfold MpS; rw [star_assoc])).map_look (int_ke int_kind) mapsd_kind sd_zero hx cm
  rw [mget_val sdV ss x nilSdR, mget_mvals, Option.isSome_map] at h1
  exact h1
theorem Own.cs_len (h : Own w0 (CsO p rb off cap nb sb hv rs ss c * R) w) (ty : TypeId) : (Builtin.len_ #[144] ty #[.map (some sb)]).run Tryd.prog w = .ok (.int .i64 ss.length) w := by
  have h1 := (h.cs_map.perm (show _ = Mp sK I64 sb (mvals sdV ss) * _ by unfold MpS; rw [star_assoc])).map_len mapsd_kind ty
  rw [mvals_len] at h1
  exact h1
/-- One member out of its group. -/
def CsX (p rb off cap nb sb : Nat) (hv : Value) (rs : List CmR) (ss : List SRow) (c : Cs) (k : Nat) : HProp :=
  SlAt 52 1 rb off rs.length cap (rs.map cmV) * (starL cmP (rs.eraseIdx k) * (csHd p nb sb (.slice (some ⟨rb, off, none⟩) rs.length cap) hv * (NtP nb c.net * (MpS sK I64 sdRow sdV sb ss * EvSl hv c.hist))))
theorem Own.cs_take {k : Nat} (hk : k < rs.length) (h : Own w0 (CsO p rb off cap nb sb hv rs ss c * R) w) : Own w0 (CwP rs[k].1 rs[k].2 * (CsX p rb off cap nb sb hv rs ss c k * R)) w :=
  (h.cs_tab.tab_take hk).perm (by unfold CsX cmP; ac_rfl)
theorem cs_mem_set {k : Nat} (hk : k < rs.length) (m : Ca) : (rs.set k (rs[k].1, m)).map cmV = rs.map cmV := by
  rw [List.map_set]
  have : cmV (rs[k].1, m) = (rs.map cmV)[k]'(by simpa using hk) := by simp [cmV]
  rw [this, List.set_getElem_self]
end
/-- The store of a word in the group's map. -/
theorem Own.cs_mapput {w0 w : World} {sb : Nat} {ss : List SRow} {x : Int} {r : SdR} {Q : HProp} (hno : mget ss x = none) (h : Own w0 (Mp sK I64 sb (mput (mvals sdV ss) x (sdV r)) * (starL (fun p : Int × SdR => sdRow p.2) ss * (sdRow r * Q))) w) : Own w0 (MpS sK I64 sdRow sdV sb (mput ss x r) * Q) w := by
  refine h.perm ?_
  unfold MpS
  have hm : mput ss x r = ss ++ [(x, r)] := mput_new (mget_none.1 hno)
  rw [mput_mvals, hm, starL_snoc]
  ac_rfl
set_option maxRecDepth 100000 in
set_option maxHeartbeats 4000000 in
theorem csSay_no {w0 w : World} {R : HProp} (p : Nat) (c : Cs) (who word : Int) (hI : CsI c) (hE : csSayErr c who word = 1 ∨ csSayErr c who word = 7) (h : Own w0 (CsP p c * R) w) :
    Calls Tryd.prog 37 #[.pointer (some ⟨p, 0, none⟩), .int .i64 who, .int .i64 word] w fun e w' => e = .returned (errV (csSayErr c who word)) ∧ Own w0 (CsP p c * R) w' := by
  obtain ⟨rb, off, cap, nb, sb, hv, rs, ss, he, ho⟩ := h.cs_open
  obtain ⟨c0, c1, c2, c3, _, _, hc1, hc2⟩ := ho.cs_facts
  have hn2 := hI.n2
  have hn5 := hI.n5
  rw [← csIs_len he] at hn2 hn5
  obtain ⟨N, hN⟩ : ∃ N, N = rs.length := ⟨_, rfl⟩
  rw [← hN] at c0 hn2 hn5 hc1
  have hNm : c.mem.length = N := by rw [← csIs_len he, hN]
  obtain ⟨E, hE'⟩ : ∃ E, E = csSayErr c who word := ⟨_, rfl⟩
  rw [← hE'] at hE ⊢
  unfold csSayErr at hE'
  rw [hNm] at hE'
  by_cases hw0 : who < 0
  · have hE1 : E = 1 := by rw [hE', if_pos (by unfold inR; simp; omega)]
    have t1 : decide (who < 0) = true := decide_eq_true hw0
    subst hE1
    clear hE'
    have H := Lib.hid h; have HI := Lib.hid hI; have HE := Lib.hid hE; have HO := Lib.hid ho; have HE := Lib.hid he; have HN := Lib.hid hN; have HNM := Lib.hid hNm; have HW0 := Lib.hid hw0
    clear h hI hE ho he hN hNm hw0
    go_enter Tryd.func37, Tryd.ntmps37
    go_wp2
    go_ret
    exact ⟨rfl, H.out⟩
  have t1 : decide (who < 0) = false := decide_eq_false hw0
  by_cases hwn : (N : Int) ≤ who
  · have hE1 : E = 1 := by rw [hE', if_pos (by unfold inR; simp; omega)]
    have t2 : decide ((N : Int) ≤ who) = true := decide_eq_true hwn
    subst hE1
    clear hE'
    have H := Lib.hid h; have HI := Lib.hid hI; have HE := Lib.hid hE; have HO := Lib.hid ho; have HE := Lib.hid he; have HN := Lib.hid hN; have HNM := Lib.hid hNm; have HW0 := Lib.hid hw0; have HWN := Lib.hid hwn
    clear h hI hE ho he hN hNm hw0 hwn
    go_enter Tryd.func37, Tryd.ntmps37
    go_wp2
    go_ret
    exact ⟨rfl, H.out⟩
  have t2 : decide ((N : Int) ≤ who) = false := decide_eq_false hwn
  rw [if_neg (by unfold inR; simp; omega)] at hE'
  cases hwd : isWord word
  · rw [if_pos hwd] at hE'
    subst hE'
    have H := Lib.hid h; have HI := Lib.hid hI; have HE := Lib.hid hE; have HO := Lib.hid ho; have HE := Lib.hid he; have HN := Lib.hid hN; have HNM := Lib.hid hNm; have HW0 := Lib.hid hw0; have HWN := Lib.hid hwn; have HWD := Lib.hid hwd
    clear h hI hE ho he hN hNm hw0 hwn hwd
    go_enter Tryd.func37, Tryd.ntmps37
    go_wp2_with fail
    refine (word_any _ _).mono ?_
    rintro e w' ⟨rfl, rfl⟩
    rw [HWD.out]
    go_wp2
    go_ret
    exact ⟨rfl, H.out⟩
  rw [if_neg (by rw [hwd]; simp)] at hE'
  cases hsm : (mget c.said word).isSome
  · rw [hsm, if_neg (by simp)] at hE'
    exfalso
    split at hE' <;> omega
  rw [hsm, if_pos rfl] at hE'
  have hlk := ho.cs_look word (isWord_I64 hwd) true
  rw [csIs_some he, hsm, if_pos rfl] at hlk
  obtain ⟨r, hr⟩ : ∃ r, r = (mget ss word).getD nilSdR := ⟨_, rfl⟩
  rw [← hr] at hlk
  unfold sdV at hlk
  obtain ⟨rv, rsd⟩ := r
  dsimp only at hlk
  have hrow : Own w0 (sdRow ((mget ss word).getD nilSdR) * _) w := (ho.cs_map.ms_take nilSdR sdRow_nil word)
  rw [← hr] at hrow
  obtain ⟨ad, cp, hrv⟩ := Own.int_shape hrow
  dsimp only at hrv
  rw [hrv] at hlk
  subst hE'
  clear hrow hr
  have H := Lib.hid h; have HI := Lib.hid hI; have HE := Lib.hid hE; have HO := Lib.hid ho; have HE := Lib.hid he; have HN := Lib.hid hN; have HNM := Lib.hid hNm; have HW0 := Lib.hid hw0; have HWN := Lib.hid hwn; have HWD := Lib.hid hwd; have HSM := Lib.hid hsm
  clear h hI hE ho he hN hNm hw0 hwn hwd hsm
  go_enter Tryd.func37, Tryd.ntmps37
  go_wp2_with fail
  refine (word_any _ _).mono ?_
  rintro e w' ⟨rfl, rfl⟩
  rw [HWD.out]
  go_wp2
  go_ret
  exact ⟨rfl, H.out.alloc' _⟩
end Go.Proofs.YtldmdenojpnldaaDoor
/- Contracts of package cast, continued: Say, of a word that may be said. -/
namespace Go.Proofs.YtldmdenojpnldaaDoor
set_option linter.unusedVariables false
set_option linter.unusedSimpArgs false
open Go.RowKit Go.Maps
section
variable {w0 w : World} {p rb off cap nb sb k : Nat} {hv : Value} {rs : List CmR} {ss : List SRow} {c : Cs} {R : HProp}
/-- A group put together again behind a word that was said. -/
theorem cs_say_close {word : Int} {r : SdR} (he : csIs rs ss c) (hk : k < rs.length) (hE : csSayErr c (k : Int) word = 0) (hr : r.2 = caSaid rs[k].2 word)
    (h : Own w0 (NtP nb (csNet c c.mem.length (k : Int) word) * (csHd p nb sb (.slice (some ⟨rb, off, none⟩) rs.length cap) hv * (CwP rs[k].1 (caSay rs[k].2 word) * (SlAt 52 1 rb off rs.length cap (rs.map cmV) * (starL cmP (rs.eraseIdx k) * (MpS sK I64 sdRow sdV sb (mput ss word r) * (EvSl hv (c.hist ++ [((k : Int), 2, word)]) * R))))))) w) :
    Own w0 (CsP p (csSay c (k : Int) word) * R) w := by
  have hm : csMem c (k : Int) = rs[k].2 := by
    have hk' : k < c.mem.length := by rw [← csIs_len he]; exact hk
    rw [csMem_at hk']
    have e : c.mem[k]? = some rs[k].2 := by rw [← he.1, List.getElem?_map, List.getElem?_eq_getElem hk]; rfl
    exact (List.getElem?_eq_some_iff.1 e).2
  refine Own.cs_close (rb := rb) (off := off) (cap := cap) (nb := nb) (sb := sb) (hv := hv) (rs := rs.set k (rs[k].1, caSay rs[k].2 word)) (ss := mput ss word r) ?_ (h.perm ?_)
  · unfold csSay
    rw [if_pos hE, hm, Int.toNat_natCast]
    refine ⟨?_, ?_⟩
    · rw [List.map_set, he.1]
    · show mvals _ (mput ss word r) = mput c.said word _
      rw [← mput_mvals, he.2, hr]
  · unfold csSay
    rw [if_pos hE]
    unfold CsO TabO
    rw [cs_mem_set hk, starL_set cmP rs k hk, List.length_set]
    show _ = csHd p nb sb _ hv * ((_ * (CwP rs[k].1 (caSay rs[k].2 word) * _)) * (NtP nb (csNet c c.mem.length (k : Int) word) * _)) * R
    ac_rfl
end
theorem csNet0 (c : Cs) (who word : Int) : csNet c 0 who word = c.net := by
  unfold csNet csPk
  simp
set_option maxRecDepth 100000 in
set_option maxHeartbeats 4000000 in
theorem csSay_yes {w0 w : World} {R : HProp} (p : Nat) (c : Cs) (who word : Int) (hI : CsI c) (hb : c.hist.length ≤ 100000) (hE : csSayErr c who word = 0 ∨ csSayErr c who word = 4) (h : Own w0 (CsP p c * R) w) :
    Calls Tryd.prog 37 #[.pointer (some ⟨p, 0, none⟩), .int .i64 who, .int .i64 word] w fun e w' => e = .returned (errV (csSayErr c who word)) ∧ Own w0 (CsP p (csSay c who word) * R) w' := by
  obtain ⟨rb, off, cap, nb, sb, hv, rs, ss, he, ho⟩ := h.cs_open
  obtain ⟨c0, c1, c2, c3, _, _, hc1, hc2⟩ := ho.cs_facts
  have hn2 := hI.n2
  have hn5 := hI.n5
  rw [← csIs_len he] at hn2 hn5
  obtain ⟨N, hN⟩ : ∃ N, N = rs.length := ⟨_, rfl⟩
  rw [← hN] at c0 hn2 hn5 hc1
  have hNm : c.mem.length = N := by rw [← csIs_len he, hN]
  obtain ⟨E, hE'⟩ : ∃ E, E = csSayErr c who word := ⟨_, rfl⟩
  have hEE := hE'
  rw [← hE'] at hE ⊢
  unfold csSayErr at hE'
  rw [hNm] at hE'
  have hin : inR who N = true := by
    cases hi : inR who N
    · rw [if_pos hi] at hE'; omega
    · rfl
  rw [if_neg (by rw [hin]; simp)] at hE'
  have hwd : isWord word = true := by
    cases hi : isWord word
    · rw [if_pos hi] at hE'; omega
    · rfl
  rw [if_neg (by rw [hwd]; simp)] at hE'
  have hsm : (mget c.said word).isSome = false := by
    cases hi : (mget c.said word).isSome
    · rfl
    · rw [hi, if_pos rfl] at hE'; omega
  rw [hsm, if_neg (by simp)] at hE'
  have hib : 0 ≤ who ∧ who < (N : Int) := by unfold inR at hin; simpa using hin
  obtain ⟨k, rfl⟩ : ∃ k : Nat, who = (k : Int) := ⟨who.toNat, by omega⟩
  have hkN : k < N := by omega
  have t1 : decide ((k : Int) < 0) = false := decide_eq_false (by omega)
  have t2 : decide (N ≤ k) = false := decide_eq_false (by omega)
  have hwI := isWord_I64 hwd
  have hlk := ho.cs_look word hwI true
  have hsn : (mget ss word).isSome = false := by rw [csIs_some he]; exact hsm
  have hnone : mget ss word = none := by cases hm : mget ss word with
    | none => rfl
    | some x => rw [hm] at hsn; cases hsn
  rw [hnone, if_pos rfl] at hlk
  have hlk2 : (Instr.lookup 144 (.map (some sb)) (.int .i64 word) true).run Tryd.prog w = .ok (.tuple #[.agg #[.int .i64 0, .int .i64 0, .slice none 0 0], .bool false]) w := hlk
  obtain ⟨A, hA⟩ : ∃ A, A = c.net.all.length := ⟨_, rfl⟩
  have hA40 : A ≤ 40 := by rw [hA]; exact hI.net.len
  obtain ⟨S, hS⟩ : ∃ S, S = ss.length := ⟨_, rfl⟩
  have hS2 : c.said.length = S := by rw [← he.2, mvals_len, hS]
  have hS30 : S ≤ 30 := by rw [← hS2]; exact hI.saidLen
  rw [← hA, hS2] at hE'
  obtain ⟨M, hM⟩ : ∃ M, M = (S + 1) * N := ⟨_, rfl⟩
  have hM155 : M ≤ 155 := by rw [hM]; exact Nat.mul_le_mul (show S + 1 ≤ 31 by omega) hn5
  have hMi : ((S : Int) + 1) * (N : Int) = (M : Int) := by rw [hM]; simp
  rw [← hM] at hE'
  obtain ⟨b1, hb_b1⟩ : ∃ zz_, zz_ = (w).heap.size := ⟨_, rfl⟩
  obtain ⟨w1, hw_w1⟩ : ∃ zz_, zz_ = (w).alloc (.cells #[.int .i64 0, .int .i64 0, .slice none 0 0] 56 (0, 0)) := ⟨_, rfl⟩
  have h_HB1 := (ho).alloc (.cells #[.int .i64 0, .int .i64 0, .slice none 0 0] 56 (0, 0))
  rw [← hb_b1, ← hw_w1] at h_HB1
  have HB1 := Lib.hid h_HB1
  clear h_HB1
  have HO := Lib.hid HB1.out.drop
  clear HB1
  have HOI := Lib.hid ho
  have HE_ := Lib.hid he
  have HEE := Lib.hid hEE
  have HEP := Lib.hid hE'
  have HMD := Lib.hid hM
  have HA' := Lib.hid hA
  have HS' := Lib.hid hS
  have HN' := Lib.hid hN
  clear hlk he ho hEE hE' hM hA hS hN
  have H := Lib.hid h; have HI := Lib.hid hI; have HE := Lib.hid hE; have HNM := Lib.hid hNm; have HWD := Lib.hid hwd; have HSM := Lib.hid hsm; have HIN := Lib.hid hin; have HSN := Lib.hid hsn; have HNONE := Lib.hid hnone; have HS2 := Lib.hid hS2
  clear h hI hE hNm hwd hsm hin hsn hnone hS2
  go_enter Tryd.func37, Tryd.ntmps37
  go_wp2_with fail
  refine (word_any _ _).mono ?_
  rintro e w' ⟨rfl, rfl⟩
  rw [HWD.out]
  go_upto_region 5 with fail
  rw [← hb_b1, ← hw_w1]
  clear hb_b1 hw_w1
  clear c0 c1 c2 c3 hlk2
  obtain ⟨c0, c1, c2, c3, _⟩ := HO.out.cs_facts
  rw [← HN'.out] at c0
  go_wp2_with fail
  refine (ntAll_any nb c.net HI.out.net HO.out.cs_net).mono ?_
  rintro e w2 ⟨v2, rfl, ho⟩
  obtain ⟨ad2, cp2, hv2, _⟩ := Own.rd ho
  subst hv2
  have ho2 : Own w0 (CsO p rb off cap nb sb hv rs ss c * R) w2 := Own.cs_net_put (c := c) ho.drop
  rw [← HA'.out]
  have hml := fun ty => ho2.cs_len ty
  rw [← HS'.out] at hml
  obtain ⟨d0, d1, d2, d3, df, d5, _, _⟩ := ho2.cs_facts
  rw [← HN'.out] at d0
  have HO2 := Lib.hid ho2
  clear ho ho2 HO c0 c1 c2 c3
  have hcs : (40 < A + N - 1) ∨ (¬ 40 < A + N - 1 ∧ 60 < M) ∨ (¬ 40 < A + N - 1 ∧ ¬ 60 < M) := by omega
  rcases hcs with h1 | ⟨h1, h2⟩ | ⟨h1, h2⟩
  · have t3 : decide ((40 : Int) < (A : Int) + (N : Int) - 1) = true := decide_eq_true (by omega)
    have hE4 : E = 4 := by rw [HEP.out, if_pos (.inl h1)]
    have hsay : csSay c (k : Int) word = c := by unfold csSay; rw [if_neg (by rw [← HEE.out, hE4]; simp)]
    have H1 := Lib.hid h1; have HE4 := Lib.hid hE4; have HSAY := Lib.hid hsay
    clear h1 hE4 hsay
    clear df d5
    go_wp2
    go_ret
    exact ⟨by rw [HE4.out]; rfl, by rw [HSAY.out]; exact Own.cs_close HE_.out HO2.out⟩
  · have t3 : decide ((40 : Int) < (A : Int) + (N : Int) - 1) = false := decide_eq_false (by omega)
    have t4 : decide ((60 : Int) < (M : Int)) = true := decide_eq_true (by omega)
    have hE4 : E = 4 := by rw [HEP.out, if_pos (.inr h2)]
    have hsay : csSay c (k : Int) word = c := by unfold csSay; rw [if_neg (by rw [← HEE.out, hE4]; simp)]
    have H1 := Lib.hid h1; have H2 := Lib.hid h2; have HE4 := Lib.hid hE4; have HSAY := Lib.hid hsay
    clear h1 h2 hE4 hsay
    clear df d5
    go_wp2
    go_ret
    exact ⟨by rw [HE4.out]; rfl, by rw [HSAY.out]; exact Own.cs_close HE_.out HO2.out⟩
  have t3 : decide ((40 : Int) < (A : Int) + (N : Int) - 1) = false := decide_eq_false (by omega)
  have t4 : decide ((60 : Int) < (M : Int)) = false := decide_eq_false (by omega)
  have hE0 : E = 0 := by rw [HEP.out, if_neg (by omega)]
  have hE0' : csSayErr c (k : Int) word = 0 := by rw [← HEE.out, hE0]
  have hkr : k < rs.length := by rw [← HN'.out]; exact hkN
  have hkm : k < c.mem.length := by rw [HNM.out]; exact hkN
  have hmk : c.mem[k] = rs[k].2 := by
    have e : c.mem[k]? = some rs[k].2 := by rw [← HE_.out.1, List.getElem?_map, List.getElem?_eq_getElem hkr]; rfl
    exact (List.getElem?_eq_some_iff.1 e).2
  have hmI : CaI rs[k].2 := by rw [← hmk]; exact (HI.out.mem k hkm).ok
  have hs0 : caSayErr rs[k].2 word = 0 := by rw [← hmk]; exact HI.out.caSay0 hkm HWD.out
  have e5 := d5 k rs[k] (by simp [hkr])
  have ht := HO2.out.cs_take hkr
  obtain ⟨q, hq⟩ : ∃ q, q = rs[k].1 := ⟨_, rfl⟩
  unfold cmV at e5
  rw [← hq] at e5 ht
  have HT := Lib.hid ht
  have HSY := Lib.hid (cwSay_any q rs[k].2 word hmI ht)
  have hsok := caSaid_ok hmI hs0
  obtain ⟨Sd', hSd⟩ : ∃ s, s = caSaid rs[k].2 word := ⟨_, rfl⟩
  rw [← hSd] at HSY hsok
  rw [hs0, errV0] at HSY
  have hSI := vecErr_I64 (sdErr0 hsok).2.2
  have k0 : (0 : Int) ≤ (k : Int) := by omega
  have HKR := Lib.hid hkr
  have HMK := Lib.hid hmk
  clear d5 df ht hmk
  have HQ := Lib.hid hq
  clear hq
  have H1 := Lib.hid h1; have H2 := Lib.hid h2; have HE0 := Lib.hid hE0; have HE0' := Lib.hid hE0'; have HMI := Lib.hid hmI; have HS0 := Lib.hid hs0; have HSOK := Lib.hid hsok; have HSD := Lib.hid hSd; have HSI := Lib.hid hSI
  clear h1 h2 hE0 hE0' hmI hs0 hsok hSd hSI
  go_wp2_with fail
  refine HSY.out.mono ?_
  rintro e w3 ⟨v3, rfl, ho⟩
  obtain ⟨ad3, cp3, rfl⟩ := Own.int_shape ho
  obtain ⟨L3, hL3⟩ : ∃ L, L = Sd'.clk.length := ⟨_, rfl⟩
  rw [← hL3] at ho ⊢
  obtain ⟨b10, hb_b10⟩ : ∃ zz_, zz_ = (w3).heap.size := ⟨_, rfl⟩
  obtain ⟨w4, hw_w4⟩ : ∃ zz_, zz_ = (w3).alloc (.cells #[.int .i64 Sd'.who, .int .i64 Sd'.word, .slice ad3 L3 cp3] 56 (0, 0)) := ⟨_, rfl⟩
  have h_HB4 := (ho).alloc (.cells #[.int .i64 Sd'.who, .int .i64 Sd'.word, .slice ad3 L3 cp3] 56 (0, 0))
  rw [← hb_b10, ← hw_w4] at h_HB4
  have HB4 := Lib.hid h_HB4
  clear h_HB4
  obtain ⟨z0, z1, z2, _⟩ := (show Own w0 (SdO b10 Sd'.who Sd'.word (.slice ad3 L3 cp3) * _) w4 from HB4.out).sd
  have H4 : Hid (Own w0 (Mp sK I64 sb (mvals sdV ss) * (starL (fun x : Int × SdR => sdRow x.2) ss * (sdRow (.slice ad3 L3 cp3, Sd') * (csHd p nb sb (.slice (some ⟨rb, off, none⟩) rs.length cap) hv * (NtP nb c.net * (EvSl hv c.hist * (CwP q (caSay rs[k].2 word) * (SlAt 52 1 rb off rs.length cap (rs.map cmV) * (starL cmP (rs.eraseIdx k) * (SdO b10 Sd'.who Sd'.word (.slice ad3 L3 cp3) * R)))))))))) w4) := Lib.hid (HB4.out.perm (by
    unfold CsX MpS SdO sdRow
    ac_rfl))
  have g2 : w4.cell? ⟨p, 2, none⟩ = some (.map (some sb)) := (H4.out.fourth.cell 2).trans rfl
  clear ho HB4 HT HSY d0 d1 d2 d3 e5 hml
  have HWI := Lib.hid hwI
  clear hwI
  have HL3 := Lib.hid hL3
  clear hL3
  go_upto_region 12 with fail
  rw [← hb_b10, ← hw_w4]
  clear hb_b10 hw_w4
  refine wp_region_planH 6 [] [(true, 0), (true, 1), (true, 2), (true, 3), (true, 4), (true, 5)] [6] (fun wS => wS = w4.drew) (by kernel_rfl) (by kernel_rfl) (rfl) ?_
  simp only [pickH, pick, List.getElem?_cons_succ, List.getElem?_cons_zero, Option.toList, Option.map_some, List.cons_append, List.nil_append]
  repeat (refine wpPure_step ?_ rfl ?_ ?_; rotate_left; (focus (intro _; first | with_reducible rfl | (go_simp; done) | (go_simp; with_reducible rfl) | rfl)); go_simp)
  refine wpPure_nil ?_
  repeat (refine wpMix_read ?_ rfl ?_ ?_; rotate_left; (focus (intro _ hS; obtain rfl := hS; first | with_reducible rfl | (go_simp; done) | (go_simp; with_reducible rfl) | rfl)); go_simp)
  refine wpMix_nil ?_
  go_wp2_with (at_mapUpdate; refine wpList_put (v := sdV (.slice ad3 L3 cp3, Sd')) (x := word) (int_ke int_kind) mapsd_kind H4.out.drew HWI.out rfl _ _ _ rfl rfl rfl rfl ?_; intro w5 ho5; have HM5 := Lib.hid (Own.cs_mapput HNONE.out ho5); clear ho5)
  refine NoPanic.normal ?_
  clear H4 g2 z0 z1 z2
  obtain ⟨Q, hQ⟩ : ∃ Q, Q = NtP nb c.net * (CwP q (caSay rs[k].2 word) * (SlAt 52 1 rb off rs.length cap (rs.map cmV) * (starL cmP (rs.eraseIdx k) * (SdO b10 Sd'.who Sd'.word (.slice ad3 L3 cp3) * (MpS sK I64 sdRow sdV sb (mput ss word (.slice ad3 L3 cp3, Sd')) * R))))) := ⟨_, rfl⟩
  have H5 : Hid (Own w0 (EvSl hv c.hist * (csHd p nb sb (.slice (some ⟨rb, off, none⟩) rs.length cap) hv * Q)) w5) := Lib.hid (HM5.out.perm (by rw [hQ]; ac_rfl))
  clear HM5
  have g3 : w5.cell? ⟨p, 3, none⟩ = some hv := (H5.out.second.cell 3).trans rfl
  obtain ⟨had, hcp, hhv, _⟩ := Own.rd H5.out
  obtain ⟨LH, hLH⟩ : ∃ L, L = c.hist.length := ⟨_, rfl⟩
  rw [← hLH] at hhv hb
  have HHV := Lib.hid hhv
  have HLH := Lib.hid hLH
  have H5' : Hid (Own w0 (Sl 102 3 (.slice had LH hcp) LH (c.hist.flatMap evCells) * (csHd p nb sb (.slice (some ⟨rb, off, none⟩) rs.length cap) (.slice had LH hcp) * Q)) w5) := Lib.hid (by
    have h1 := H5.out
    unfold EvSl at h1
    rw [hhv, ← hLH] at h1
    exact h1)
  rw [hhv] at g3
  clear hhv hLH H5
  have HQ_ := Lib.hid hQ
  clear hQ
  go_upto_block 0 with (at_builtin; refine wpList_app rfl _ _ 88 rfl 102 3 24 _ info_ev Tryd.underlying88 rfl (by decide) rfl (H5'.out.alloc' _) rfl (by rfl) (Rd_lit (by simp) (by unfold maxLen; omega)) (by intro u hu; simp at hu; rcases hu with rfl | rfl | rfl <;> rfl) (by unfold maxLen; omega) (by omega) ?_; intro v6 w6 hown; obtain ⟨ad6, n6, cp6, hv6⟩ := sl_shape hown; have g4 := (hown.second.cell 3); have g5 := hown.second.free 3 none; have HN6 := Lib.hid (hown.second.setCell (i := 3) (v := v6)); subst hv6; clear hown)
  obtain ⟨w7, hw7⟩ : ∃ x, x = w6.setCell ⟨p, 3, none⟩ (.slice ad6 n6 cp6) := ⟨_, rfl⟩
  rw [← hw7] at HN6 ⊢
  obtain ⟨Q2, hQ2⟩ : ∃ Q2, Q2 = CwP q (caSay rs[k].2 word) * (SlAt 52 1 rb off rs.length cap (rs.map cmV) * (starL cmP (rs.eraseIdx k) * (SdO b10 Sd'.who Sd'.word (.slice ad3 L3 cp3) * (MpS sK I64 sdRow sdV sb (mput ss word (.slice ad3 L3 cp3, Sd')) * (EvSl (.slice ad6 n6 cp6) (c.hist ++ [((k : Int), 2, word)]) * R))))) := ⟨_, rfl⟩
  have H7 : Hid (Own w0 (NtP nb (csNet c 0 (k : Int) word) * (csHd p nb sb (.slice (some ⟨rb, off, none⟩) rs.length cap) (.slice ad6 n6 cp6) * Q2)) w7) := Lib.hid (by
    have e1 : Sl 102 3 (.slice ad6 n6 cp6) (LH + 1) (c.hist.flatMap evCells ++ [.int .i64 (k : Int), .int .i64 2, .int .i64 word]) = EvSl (.slice ad6 n6 cp6) (c.hist ++ [((k : Int), 2, word)]) := by
      unfold EvSl
      rw [List.length_append, List.flatMap_append, HLH.out]
      rfl
    have h1 := HN6.out
    rw [HQ_.out] at h1
    rw [hQ2, csNet0, ← e1]
    refine h1.perm ?_
    show csHd p nb sb _ (.slice ad6 n6 cp6) * _ = _
    ac_rfl)
  clear hw7 HN6 g3 g4 g5 H5' HHV HQ_ HO2
  have HQ2 := Lib.hid hQ2
  clear hQ2
  go_wp2_with fail
  go_loopw [99] (fun iv wr => ∃ i : Nat, i ≤ N ∧ iv = .int .i64 i ∧ Hid (Own w0 (NtP nb (csNet c i (k : Int) word) * (csHd p nb sb (.slice (some ⟨rb, off, none⟩) rs.length cap) (.slice ad6 n6 cp6) * Q2)) wr)) (fun iv _ => N - (intOf iv).toNat)
  case atStart => exact ⟨0, Nat.zero_le _, rfl, H7⟩
  case round =>
    clear H7
    obtain ⟨i, hi, rfl, HP⟩ := hrel
    by_cases hlt : i < N
    rotate_left
    · have hiN : i = c.mem.length := by rw [HNM.out]; omega
      rw [hiN, HQ2.out] at HP
      have HIN := Lib.hid hiN
      clear hiN
      go_wp2
      go_ret
      refine ⟨by rw [HE0.out]; rfl, cs_say_close (rb := rb) (off := off) (cap := cap) (nb := nb) (sb := sb) (hv := .slice ad6 n6 cp6) (r := (.slice ad3 L3 cp3, Sd')) HE_.out HKR.out HE0'.out HSD.out ?_⟩
      rw [← HQ.out]
      have h1 := HP.out
      refine (h1.perm (show _ = SdO b10 Sd'.who Sd'.word (.slice ad3 L3 cp3) * (NtP nb (csNet c c.mem.length (k : Int) word) * (csHd p nb sb (.slice (some ⟨rb, off, none⟩) rs.length cap) (.slice ad6 n6 cp6) * (CwP q (caSay rs[k].2 word) * (SlAt 52 1 rb off rs.length cap (rs.map cmV) * (starL cmP (rs.eraseIdx k) * (MpS sK I64 sdRow sdV sb (mput ss word (.slice ad3 L3 cp3, Sd')) * (EvSl (.slice ad6 n6 cp6) (c.hist ++ [((k : Int), 2, word)]) * R))))))) by ac_rfl)).drop
    have c1 : wr.cell? ⟨p, 1, none⟩ = some (.pointer (some ⟨nb, 0, none⟩)) := (HP.out.second.cell 1).trans rfl
    by_cases hik : i = k
    · have t5 : ((i : Int) == (k : Int)) = true := by rw [beq_iff_eq, hik]
      have HS2 : Hid (Own w0 (NtP nb (csNet c (i + 1) (k : Int) word) * (csHd p nb sb (.slice (some ⟨rb, off, none⟩) rs.length cap) (.slice ad6 n6 cp6) * Q2)) wr) := Lib.hid (by rw [csNet_skip (by rw [hik])]; exact HP.out)
      have HIK := Lib.hid hik
      clear hik
      go_wp2
      go_round
      case rel => exact ⟨i + 1, by omega, by go_num, HS2⟩
      case measure => simp [intOf]; omega
    · have t5 : ((i : Int) == (k : Int)) = false := by rw [beq_eq_false_iff_ne]; omega
      obtain ⟨s1, s2⟩ := csNet_send HI.out HE0'.out (k := i) (by rw [HNM.out]; exact hlt) (show (i : Int) ≠ (k : Int) by omega)
      have HSN := Lib.hid (ntSend_any nb (csNet c i (k : Int) word) ((k : Int), (i : Int), word) (csNet_I HI.out HE0'.out (by rw [HNM.out]; omega)) HP.out)
      rw [s1, s2] at HSN
      have HIK := Lib.hid hik; have S1 := Lib.hid s1; have S2 := Lib.hid s2
      clear hik s1 s2
      go_wp2_with fail
      refine HSN.out.mono ?_
      rintro e w8 ⟨rfl, ho⟩
      rw [errV0]
      have HP2 := Lib.hid ho
      clear ho HSN c1
      go_wp2
      go_round
      case rel => exact ⟨i + 1, by omega, by go_num, HP2⟩
      case measure => simp [intOf]; omega
set_option maxRecDepth 100000 in
set_option maxHeartbeats 4000000 in
theorem csSay_any {w0 w : World} {R : HProp} (p : Nat) (c : Cs) (who word : Int) (hI : CsI c) (hb : c.hist.length ≤ 100000) (h : Own w0 (CsP p c * R) w) :
    Calls Tryd.prog 37 #[.pointer (some ⟨p, 0, none⟩), .int .i64 who, .int .i64 word] w fun e w' => e = .returned (errV (csSayErr c who word)) ∧ Own w0 (CsP p (csSay c who word) * R) w' := by
  have hcs : (csSayErr c who word = 1 ∨ csSayErr c who word = 7) ∨ (csSayErr c who word = 0 ∨ csSayErr c who word = 4) := by
    unfold csSayErr
    split
    · exact .inl (.inl rfl)
    split
    · exact .inl (.inl rfl)
    split
    · exact .inl (.inr rfl)
    split
    · exact .inr (.inr rfl)
    · exact .inr (.inl rfl)
  rcases hcs with hc | hc
  · have hs : csSay c who word = c := by unfold csSay; rw [if_neg (by omega)]
    rw [hs]
    exact csSay_no p c who word hI hc h
  · exact csSay_yes p c who word hI hb hc h
end Go.Proofs.YtldmdenojpnldaaDoor
/- errors.As at a number of api, and what plain.Told makes of an error: its number. (After the guide's Toyas example, at a target that is a number.) -/
namespace Go.Proofs.YtldmdenojpnldaaDoor
open Go.RowKit Go.Extern.Stop Go.Stop Go.Extern
set_option linter.unusedVariables false
namespace As
/-- The variable errors.errorType holds the handle of the type error. -/
def Handle (w : World) : Prop := w.cell? ⟨0, 0, none⟩ = some (.iface 199 (.agg #[.pointer (some ⟨1, 29, none⟩)]))
theorem valueOfT (t : Addr) (w : World) : (ReflectliteValue.unpack (.iface 150 (.pointer (some t)))).run Tryd.prog w
    = .ok (.agg #[.pointer (some ⟨1, 150, none⟩), .pointer (some ⟨w.heap.size, 0, none⟩), .int .u64 150]) (w.alloc (.cells #[.pointer (some t)] 150)) := by kernel_rfl
theorem typeT (a : Addr) (w : World) : (ReflectliteValue.methodAny (ReflectliteValue.valueError "reflectlite.Value.Type" 0) (fun t _ _ _ => ReflectliteType.toType t) #[.agg #[.pointer (some ⟨1, 150, none⟩), .pointer (some a), .int .u64 150]]).run Tryd.prog w
    = .ok (.iface 199 (.agg #[.pointer (some ⟨1, 150, none⟩)])) w := by kernel_rfl
theorem methodKind (h : Value) (w : World) : (Go.method 348 199 (.agg #[h]) "Kind").run Tryd.prog w = .ok (134, h) w := by kernel_rfl
theorem kindT (w : World) : ((ReflectliteType.abiMethod fun t => (fun a : Nat => Value.int IntKind.u8 (a : Int)) <$> Rtype.kind t) #[.pointer (some ⟨1, 150, none⟩)]).run Tryd.prog w = .ok (.int .u8 22) w := by kernel_rfl
theorem kindE (w : World) : ((ReflectliteType.abiMethod fun t => (fun a : Nat => Value.int IntKind.u8 (a : Int)) <$> Rtype.kind t) #[.pointer (some ⟨1, 129, none⟩)]).run Tryd.prog w = .ok (.int .u8 2) w := by kernel_rfl
theorem rlm (z : Sem Value) (f : TypeId → Addr → Nat → Nat → Sem Value) (v : Value) :
    ReflectliteValue.method z f #[v] = (do match ← ReflectliteValue.parts v with | none => z | some (t, a, fl) => f t a fl (fl % 32)) := rfl
theorem partsT (a : Addr) (w : World) : (ReflectliteValue.parts (.agg #[.pointer (some ⟨1, 150, none⟩), .pointer (some a), .int .u64 150])).run Tryd.prog w = .ok (some (150, a, 150)) w := by kernel_rfl
theorem isNilT (a p : Addr) (W : World) (ha : W.cell? a = some (.pointer (some p))) :
    (ReflectliteValue.method (ReflectliteValue.valueError "reflectlite.Value.IsNil" 0) ReflectliteValue.isNil #[.agg #[.pointer (some ⟨1, 150, none⟩), .pointer (some a), .int .u64 150]]).run Tryd.prog W = .ok (.bool false) W := by
  rw [rlm]
  simp only [Sem.run_bind, partsT, Result.andThen]
  simp [ReflectliteValue.isNil, loadVar, isAgg, underlying, Tryd.underlying150, ha, Result.andThen]
theorem methodElem (h : Value) (w : World) : (Go.method 348 199 (.agg #[h]) "Elem").run Tryd.prog w = .ok (144, .agg #[h]) w := by kernel_rfl
theorem methodImplements (h : Value) (w : World) : (Go.method 348 199 (.agg #[h]) "Implements").run Tryd.prog w = .ok (145, .agg #[h]) w := by kernel_rfl
theorem methodAssignableTo (h : Value) (w : World) : (Go.method 348 199 (.agg #[h]) "AssignableTo").run Tryd.prog w = .ok (142, .agg #[h]) w := by kernel_rfl
theorem elemT (w : World) : (ReflectliteType.method ReflectliteType.elem #[.agg #[.pointer (some ⟨1, 150, none⟩)]]).run Tryd.prog w = .ok (.iface 199 (.agg #[.pointer (some ⟨1, 129, none⟩)])) w := by kernel_rfl
theorem implementsE (w : World) : (ReflectliteType.relation "Implements" ReflectliteType.implements_ #[.agg #[.pointer (some ⟨1, 129, none⟩)], .iface 199 (.agg #[.pointer (some ⟨1, 29, none⟩)])]).run Tryd.prog w = .ok (.bool true) w := by kernel_rfl
theorem typeOfE (v : Value) (w : World) : (ReflectliteType.typeOf #[.iface 129 v]).run Tryd.prog w = .ok (.iface 199 (.agg #[.pointer (some ⟨1, 129, none⟩)])) w := by kernel_rfl
theorem assignableE (w : World) : (ReflectliteType.relation "AssignableTo" ReflectliteType.assignableTo #[.agg #[.pointer (some ⟨1, 129, none⟩)], .iface 199 (.agg #[.pointer (some ⟨1, 129, none⟩)])]).run Tryd.prog w = .ok (.bool true) w := by kernel_rfl
theorem valueOfE (n : Int) (w : World) : (ReflectliteValue.unpack (.iface 129 (.int .i64 n))).run Tryd.prog w
    = .ok (.agg #[.pointer (some ⟨1, 129, none⟩), .pointer (some ⟨w.heap.size, 0, none⟩), .int .u64 130]) (w.alloc (.cells #[.int .i64 n] 129)) := by kernel_rfl
theorem elemOfT (w : World) : (Rtype.elem? 150).run Tryd.prog w = .ok (some 129) w := by kernel_rfl
theorem mkE (p : Addr) (w : World) : (ReflectliteValue.mk 129 p ReflectliteValue.flagAddr).run Tryd.prog w = .ok (.agg #[.pointer (some ⟨1, 129, none⟩), .pointer (some p), .int .u64 386]) w := by kernel_rfl
theorem elemVT (a p : Addr) (W : World) (ha : W.cell? a = some (.pointer (some p))) :
    (ReflectliteValue.method (ReflectliteValue.valueError "reflectlite.Value.Elem" 0) ReflectliteValue.elem #[.agg #[.pointer (some ⟨1, 150, none⟩), .pointer (some a), .int .u64 150]]).run Tryd.prog W
      = .ok (.agg #[.pointer (some ⟨1, 129, none⟩), .pointer (some p), .int .u64 386]) W := by
  rw [rlm]
  simp only [Sem.run_bind, partsT, Result.andThen]
  simp [ReflectliteValue.elem, loadVar, isAgg, underlying, Tryd.underlying150, ha, Result.andThen, elemOfT, mkE]
theorem rls (v x : Value) : ReflectliteValue.set #[v, x] = (do
    let (some (dst, a, fl), some (src, b, _)) := (← ReflectliteValue.parts v, ← ReflectliteValue.parts x)
      | unsupported (.noEntry "extern/(internal/reflectlite.Value).Set.zeroValue")
    if fl / ReflectliteValue.flagAddr % 2 == 0 then unsupported (.noEntry "extern/(internal/reflectlite.Value).Set.unaddressable")
    let val ← loadVar src b
    if ← Rtype.directlyAssignable dst src then storeVar dst a val
    else if ← Rtype.implements dst src then
      if (← Rtype.kind src) == 20 then
        match val with
        | .nilIface => unsupported (.noEntry "extern/reflectlite: a nil value of one interface type handed on as a value of another")
        | _ => storeVar dst a val
      else storeVar dst a (.iface src val)
    else panicString ("reflectlite.Set: value of type " ++ (← Rtype.spelt src) ++ " is not assignable to type " ++ (← Rtype.spelt dst))
    pure (.tuple #[])) := rfl
theorem partsEa (a : Addr) (w : World) : (ReflectliteValue.parts (.agg #[.pointer (some ⟨1, 129, none⟩), .pointer (some a), .int .u64 386])).run Tryd.prog w = .ok (some (129, a, 386)) w := by kernel_rfl
theorem partsE (a : Addr) (w : World) : (ReflectliteValue.parts (.agg #[.pointer (some ⟨1, 129, none⟩), .pointer (some a), .int .u64 130])).run Tryd.prog w = .ok (some (129, a, 130)) w := by kernel_rfl
theorem directE (w : World) : (Rtype.directlyAssignable 129 129).run Tryd.prog w = .ok true w := by kernel_rfl
theorem sizeE (w : World) : (sizeOf 129).run Tryd.prog w = .ok 1 w := by kernel_rfl
theorem setE (ta b : Addr) (n : Int) (old : Value) (W : World) (hb : W.cell? b = some (.int .i64 n)) (ht : W.cell? ta = some old) (hf : W.frozen? ta = false) :
    (ReflectliteValue.set #[.agg #[.pointer (some ⟨1, 129, none⟩), .pointer (some ta), .int .u64 386], .agg #[.pointer (some ⟨1, 129, none⟩), .pointer (some b), .int .u64 130]]).run Tryd.prog W
      = .ok (.tuple #[]) (W.setCell ta (.int .i64 n)) := by
  rw [rls]
  simp only [Sem.run_bind, partsEa, partsE, Result.andThen]
  simp [ReflectliteValue.flagAddr, loadVar, isAgg, underlying, Tryd.underlying129, hb, Result.andThen, directE, storeVar, Value.cells, storeCells, Addr.add]
  rw [run_store Tryd.prog W ta _ _ (by rfl)]
  simp [ht, hf]
set_option maxHeartbeats 4000000 in
theorem as_hit (n : Int) (t : Addr) (old : Value) (w : World) (hg : Handle w) (ht0 : w.cell? t = some old) (hf0 : w.frozen? t = false) :
    Calls Tryd.prog 73 #[.iface 129 (.int .i64 n), .iface 150 (.pointer (some t))] w fun ev w' => ev = .returned (.bool true) ∧ w' = ((((w.alloc (.cells #[.pointer (some t)] 150)).alloc (.cells #[.pointer (some ⟨1, 150, none⟩), .pointer (some ⟨w.heap.size, 0, none⟩), .int .u64 150] 181)).alloc (.cells #[.pointer (some ⟨1, 150, none⟩), .pointer (some ⟨w.heap.size, 0, none⟩), .int .u64 150] 181)).alloc (.cells #[.int .i64 n] 129)).setCell t (.int .i64 n) := by
  have hg : w.cell? ⟨0, 0, none⟩ = some (.iface 199 (.agg #[.pointer (some ⟨1, 29, none⟩)])) := hg
  have h6 := @run_callFunc_extern Tryd.prog 92 _ (fun args => ReflectliteValue.unpack (args.getD 0 (.tuple #[]))) Tryd.func92 (by kernel_rfl) (by kernel_rfl) (by kernel_rfl) (by kernel_rfl)
  have h7 := @run_callFunc_extern Tryd.prog 93 _ (ReflectliteValue.methodAny (ReflectliteValue.valueError "reflectlite.Value.Type" 0) (fun t _ _ _ => ReflectliteType.toType t)) Tryd.func93 (by kernel_rfl) (by kernel_rfl) (by kernel_rfl) (by kernel_rfl)
  have h8 := @run_callFunc_extern Tryd.prog 94 _ (ReflectliteValue.method (ReflectliteValue.valueError "reflectlite.Value.IsNil" 0) ReflectliteValue.isNil) Tryd.func94 (by kernel_rfl) (by kernel_rfl) (by kernel_rfl) (by kernel_rfl)
  have h27 := @run_callFunc_extern Tryd.prog 134 _ (ReflectliteType.abiMethod fun t => do pure (.int .u8 (← Rtype.kind t))) Tryd.func134 (by kernel_rfl) (by kernel_rfl) (by kernel_rfl) (by kernel_rfl)
  have h37 := @run_callFunc_extern Tryd.prog 144 _ (ReflectliteType.method ReflectliteType.elem) Tryd.func144 (by kernel_rfl) (by kernel_rfl) (by kernel_rfl) (by kernel_rfl)
  have h38 := @run_callFunc_extern Tryd.prog 145 _ (ReflectliteType.relation "Implements" ReflectliteType.implements_) Tryd.func145 (by kernel_rfl) (by kernel_rfl) (by kernel_rfl) (by kernel_rfl)
  have h10 := @run_callFunc_extern Tryd.prog 108 _ ReflectliteType.typeOf Tryd.func108 (by kernel_rfl) (by kernel_rfl) (by kernel_rfl) (by kernel_rfl)
  have h35 := @run_callFunc_extern Tryd.prog 142 _ (ReflectliteType.relation "AssignableTo" ReflectliteType.assignableTo) Tryd.func142 (by kernel_rfl) (by kernel_rfl) (by kernel_rfl) (by kernel_rfl)
  have h11 := @run_callFunc_extern Tryd.prog 109 _ (ReflectliteValue.method (ReflectliteValue.valueError "reflectlite.Value.Elem" 0) ReflectliteValue.elem) Tryd.func109 (by kernel_rfl) (by kernel_rfl) (by kernel_rfl) (by kernel_rfl)
  have h12 := @run_callFunc_extern Tryd.prog 110 _ ReflectliteValue.set Tryd.func110 (by kernel_rfl) (by kernel_rfl) (by kernel_rfl) (by kernel_rfl)
  have tO := typeOfE
  have mA := methodAssignableTo
  have a25 := assignableE
  have v25 := valueOfE
  have f6 := valueOfT
  have f7 := typeT
  have mK := methodKind
  have mE := methodElem
  have mI := methodImplements
  have k27 := kindT
  have k25 := kindE
  have e27 := elemT
  have i25 := implementsE
  have n8 := isNilT ⟨w.heap.size, 0, none⟩ t ((w.alloc (.cells #[.pointer (some t)] 150)).alloc (.cells #[.pointer (some ⟨1, 150, none⟩), .pointer (some ⟨w.heap.size, 0, none⟩), .int .u64 150] 181)) (by simp)
  have hlt : 0 < w.heap.size := by
    rcases Nat.eq_zero_or_pos w.heap.size with h0 | h
    · simp [World.cell?, h0] at hg
    · exact h
  have hg2 : ((w.alloc (.cells #[.pointer (some t)] 150)).alloc (.cells #[.pointer (some ⟨1, 150, none⟩), .pointer (some ⟨w.heap.size, 0, none⟩), .int .u64 150] 181)).cell? ⟨0, 0, none⟩ = some (.iface 199 (.agg #[.pointer (some ⟨1, 29, none⟩)])) := by
    rw [World.cell?_alloc_lt _ _ ⟨0, 0, none⟩ (by simp), World.cell?_alloc_lt _ _ ⟨0, 0, none⟩ hlt]; exact hg
  have htl : t.block < w.heap.size := by
    rcases Nat.lt_or_ge t.block w.heap.size with h | h
    · exact h
    · simp [World.cell?, Array.getElem?_eq_none h] at ht0
  have el := elemVT ⟨w.heap.size, 0, none⟩ t (((w.alloc (.cells #[.pointer (some t)] 150)).alloc (.cells #[.pointer (some ⟨1, 150, none⟩), .pointer (some ⟨w.heap.size, 0, none⟩), .int .u64 150] 181)).alloc (.cells #[.pointer (some ⟨1, 150, none⟩), .pointer (some ⟨w.heap.size, 0, none⟩), .int .u64 150] 181)) (by rw [World.cell?_alloc_lt _ _ ⟨w.heap.size, 0, none⟩ (by simp; omega)]; simp)
  have st := setE t ⟨w.heap.size + 1 + 1 + 1, 0, none⟩ n old ((((w.alloc (.cells #[.pointer (some t)] 150)).alloc (.cells #[.pointer (some ⟨1, 150, none⟩), .pointer (some ⟨w.heap.size, 0, none⟩), .int .u64 150] 181)).alloc (.cells #[.pointer (some ⟨1, 150, none⟩), .pointer (some ⟨w.heap.size, 0, none⟩), .int .u64 150] 181)).alloc (.cells #[.int .i64 n] 129))
    (by rw [World.cell?_alloc_at _ _ _ _ (by simp)]; rfl)
    (by rw [World.cell?_alloc_lt _ _ t (by simp; omega), World.cell?_alloc_lt _ _ t (by simp; omega), World.cell?_alloc_lt _ _ t (by simp; omega), World.cell?_alloc_lt _ _ t htl]; exact ht0)
    (by rw [World.frozen?_alloc_old _ _ t (by simp; omega), World.frozen?_alloc_old _ _ t (by simp; omega), World.frozen?_alloc_old _ _ t (by simp; omega), World.frozen?_alloc_old _ _ t (Nat.ne_of_lt htl)]; exact hf0)
  go_enter Tryd.func73, Tryd.ntmps73
  go_wp2
  refine wp_loop_rounds 1 ?_
  rw [rounds_succ]
  go_wp2
  go_ret
  exact ⟨rfl, rfl⟩
end As
end Go.Proofs.YtldmdenojpnldaaDoor
/- What plain.Told makes of an error: its number. -/
namespace Go.Proofs.YtldmdenojpnldaaDoor
open Go.RowKit
set_option linter.unusedVariables false
/-- What plain.Told makes of an error. -/
theorem tell_any {w0 w : World} {R : HProp} (hg : As.Handle w0) (n : Nat) (h : Own w0 R w) :
    Calls Tryd.prog 61 #[errV n] w fun e w' => e = .returned (.int .i64 n) ∧ Own w0 R w' := by
  have HH := Lib.hid h
  cases n with
  | zero =>
    rw [errV0]
    go_enter Tryd.func61, Tryd.ntmps61
    go_wp2
    go_ret
    exact ⟨rfl, HH.out⟩
  | succ n =>
    rw [show errV (n + 1) = .iface 129 (.int .i64 ((n : Int) + 1)) from rfl]
    have hlt : (⟨0, 0, none⟩ : Addr).block < w0.heap.size := World.block_lt_of_cell? _ _ hg
    have hw : As.Handle w := by unfold As.Handle; rw [h.below.cell (p := ⟨0, 0, none⟩) hlt]; exact hg
    have hlw : (⟨0, 0, none⟩ : Addr).block < w.heap.size := World.block_lt_of_cell? _ _ hw
    have hw1 : As.Handle (w.alloc (.cells #[.int .i64 0] 129)) := by unfold As.Handle; rw [World.cell?_alloc_lt _ _ _ hlw]; exact hw
    have HW1 := Lib.hid hw1
    have g1 := (h.alloc (.cells #[.int .i64 0] 129))
    have HC := Lib.hid (g1.cell 0); have HF := Lib.hid (g1.free 0 none)
    clear hw hw1 hlw hlt h g1 hg
    go_enter Tryd.func61, Tryd.ntmps61
    go_wp2_with fail
    refine (As.as_hit _ ⟨w.heap.size, 0, none⟩ (.int .i64 0) _ HW1.out HC.out HF.out).mono ?_
    rintro e w' ⟨rfl, rfl⟩
    go_wp2
    go_ret
    exact ⟨by simp, ((((HH.out.alloc' _).alloc' _).alloc' _).alloc' _).alloc' _⟩
/-- Is an error the one told? -/
theorem sameErr_any {w0 w : World} {R : HProp} (hg : As.Handle w0) (n : Nat) (m : Int) (h : Own w0 R w) :
    Calls Tryd.prog 17 #[errV n, .int .i64 m] w fun e w' => e = .returned (.bool ((n : Int) == m)) ∧ Own w0 R w' := by
  have T := Lib.hid (tell_any hg n h)
  clear hg h
  go_enter Tryd.func17, Tryd.ntmps17
  go_wp2_with fail
  refine (T.out).mono ?_
  rintro e w' ⟨rfl, ho⟩
  have HO := Lib.hid ho
  clear ho
  go_wp2
  go_ret
  exact ⟨rfl, HO.out⟩
end Go.Proofs.YtldmdenojpnldaaDoor
