/- Contracts of package cast, continued: Say. -/
import Derived.Test.YtldmdenojpnldaaDoorCast2
import Derived.Test.YtldmdenojpnldaaDoorPiece
namespace Go.Proofs.YtldmdenojpnldaaDoor
set_option linter.unusedVariables false
set_option linter.unusedSimpArgs false
open Go.RowKit Go.Maps
theorem csPk_succ (n : Nat) (who word : Int) : csPk (n + 1) who word = csPk n who word ++ (if (n : Int) ≠ who then [(who, (n : Int), word)] else []) := by
  unfold csPk
  rw [List.range_succ, List.filter_append, List.map_append]
  congr 1
  by_cases h : (n : Int) ≠ who
  · rw [if_pos h]; simp [h]
  · rw [if_neg h]; simp at h; simp [h]
theorem csPk_le (n : Nat) (who word : Int) : ∀ k, k ≤ n → (csPk k who word).length ≤ (csPk n who word).length := by
  induction n with
  | zero => intro k hk; rw [show k = 0 by omega]; exact Nat.le_refl _
  | succ n ih =>
    intro k hk
    by_cases h : k = n + 1
    · rw [h]; exact Nat.le_refl _
    · refine Nat.le_trans (ih k (by omega)) ?_
      rw [csPk_succ, List.length_append]
      exact Nat.le_add_right _ _
/-- The net while packets of a word are sent. -/
def csNet (c : Cs) (k : Nat) (who word : Int) : Nt := ⟨c.net.all ++ csPk k who word, c.net.cut⟩
theorem csNet_I {c : Cs} (hI : CsI c) {who word : Int} (he : csSayErr c who word = 0) {k : Nat} (hk : k ≤ c.mem.length) : NtI (csNet c k who word) := by
  have h1 := (hI.say who word).net
  unfold csSay at h1
  rw [if_pos he] at h1
  obtain ⟨b1, _, b3, b4, _⟩ := csSayErr0 he
  have hle := csPk_le c.mem.length who word k hk
  refine ⟨?_, fun p hp => ?_, hI.net.nd, hI.net.mem⟩
  · have := h1.len
    simp only [csNet, List.length_append] at this ⊢
    omega
  · rcases List.mem_append.1 hp with hp | hp
    · exact hI.net.ok p hp
    · obtain ⟨d1, d2, d3, d4, d5⟩ := csPk_mem hp
      have := hI.n5
      have hw := (csSayErr0 he).2.1
      refine pkErr_ok ?_ ?_ (by rw [d2]; exact hw) (by rw [d1]; exact fun e => d5 e.symm)
      · rw [d1]; simp [isMember]; omega
      · simp [isMember]; omega
theorem csNet_send {c : Cs} (hI : CsI c) {who word : Int} (he : csSayErr c who word = 0) {k : Nat} (hk : k < c.mem.length) (hne : (k : Int) ≠ who) :
    ntErr (csNet c k who word) (who, (k : Int), word) = 0 ∧ ntSend (csNet c k who word) (who, (k : Int), word) = csNet c (k + 1) who word := by
  have h1 := csNet_I hI he (k := k + 1) (by omega)
  have e : (csNet c (k + 1) who word).all = (csNet c k who word).all ++ [(who, (k : Int), word)] := by
    unfold csNet
    rw [csPk_succ, if_pos hne, List.append_assoc]
  have h2 := h1.len
  rw [e, List.length_append] at h2
  simp only [List.length_singleton] at h2
  have h0 : ntErr (csNet c k who word) (who, (k : Int), word) = 0 := by
    unfold ntErr
    have := h1.ok (who, (k : Int), word) (by rw [e]; simp)
    rw [if_neg (by rw [this]; simp), if_neg (by omega)]
  refine ⟨h0, ?_⟩
  unfold ntSend
  rw [if_pos h0, ← e]
  rfl
theorem csNet_skip {c : Cs} {who word : Int} {k : Nat} (h : (k : Int) = who) : csNet c (k + 1) who word = csNet c k who word := by
  unfold csNet
  rw [csPk_succ, if_neg (by rw [h]; simp), List.append_nil]
section
variable {w0 w : World} {p rb off cap nb sb : Nat} {hv : Value} {rs : List CmR} {ss : List SRow} {c : Cs} {R : HProp}
theorem csIs_some (he : csIs rs ss c) (x : Int) : (mget ss x).isSome = (mget c.said x).isSome := by
  rw [← he.2, mget_mvals]; cases mget ss x <;> rfl
theorem csIs_get (he : csIs rs ss c) (x : Int) : ((mget ss x).getD nilSdR).2 = csSd c x := by
  unfold csSd
  rw [← he.2, mget_mvals]; cases mget ss x <;> rfl
theorem Own.cs_look (h : Own w0 (CsO p rb off cap nb sb hv rs ss c * R) w) (x : Int) (hx : I64 x) (cm : Bool) :
    (Instr.lookup 144 (.map (some sb)) (.int .i64 x) cm).run Tryd.prog w = .ok (if cm then .tuple #[sdV ((mget ss x).getD nilSdR), .bool (mget ss x).isSome] else sdV ((mget ss x).getD nilSdR)) w := by
  have h1 := (h.cs_map.perm (show _ = Mp sK I64 sb (mvals sdV ss) * _ by unfold MpS; rw [star_assoc])).map_look (int_ke int_kind) mapsd_kind sd_zero hx cm
  rw [mget_val sdV ss x nilSdR, mget_mvals, Option.isSome_map] at h1
  exact h1
theorem Own.cs_len (h : Own w0 (CsO p rb off cap nb sb hv rs ss c * R) w) (ty : TypeId) : (Builtin.len_ #[144] ty #[.map (some sb)]).run Tryd.prog w = .ok (.int .i64 ss.length) w := by
  have h1 := (h.cs_map.perm (show _ = Mp sK I64 sb (mvals sdV ss) * _ by unfold MpS; rw [star_assoc])).map_len mapsd_kind ty
  rw [mvals_len] at h1
  exact h1
/-- One member out of its group. -/
def CsX (p rb off cap nb sb : Nat) (hv : Value) (rs : List CmR) (ss : List SRow) (c : Cs) (k : Nat) : HProp :=
  SlAt 52 1 rb off rs.length cap (rs.map cmV) * (starL cmP (rs.eraseIdx k) * (csHd p nb sb (.slice (some ⟨rb, off, none⟩) rs.length cap) hv * (NtP nb c.net * (MpS sK I64 sdRow sdV sb ss * EvSl hv c.hist))))
theorem Own.cs_take {k : Nat} (hk : k < rs.length) (h : Own w0 (CsO p rb off cap nb sb hv rs ss c * R) w) : Own w0 (CwP rs[k].1 rs[k].2 * (CsX p rb off cap nb sb hv rs ss c k * R)) w :=
  (h.cs_tab.tab_take hk).perm (by unfold CsX cmP; ac_rfl)
theorem cs_mem_set {k : Nat} (hk : k < rs.length) (m : Ca) : (rs.set k (rs[k].1, m)).map cmV = rs.map cmV := by
  rw [List.map_set]
  have : cmV (rs[k].1, m) = (rs.map cmV)[k]'(by simpa using hk) := by simp [cmV]
  rw [this, List.set_getElem_self]
end
/-- The store of a word in the group's map. -/
theorem Own.cs_mapput {w0 w : World} {sb : Nat} {ss : List SRow} {x : Int} {r : SdR} {Q : HProp} (hno : mget ss x = none) (h : Own w0 (Mp sK I64 sb (mput (mvals sdV ss) x (sdV r)) * (starL (fun p : Int × SdR => sdRow p.2) ss * (sdRow r * Q))) w) : Own w0 (MpS sK I64 sdRow sdV sb (mput ss x r) * Q) w := by
  refine h.perm ?_
  unfold MpS
  have hm : mput ss x r = ss ++ [(x, r)] := mput_new (mget_none.1 hno)
  rw [mput_mvals, hm, starL_snoc]
  ac_rfl
set_option maxRecDepth 100000 in
set_option maxHeartbeats 4000000 in
theorem csSay_no {w0 w : World} {R : HProp} (p : Nat) (c : Cs) (who word : Int) (hI : CsI c) (hE : csSayErr c who word = 1 ∨ csSayErr c who word = 7) (h : Own w0 (CsP p c * R) w) :
    Calls Tryd.prog 37 #[.pointer (some ⟨p, 0, none⟩), .int .i64 who, .int .i64 word] w fun e w' => e = .returned (errV (csSayErr c who word)) ∧ Own w0 (CsP p c * R) w' := by
  obtain ⟨rb, off, cap, nb, sb, hv, rs, ss, he, ho⟩ := h.cs_open
  obtain ⟨c0, c1, c2, c3, _, _, hc1, hc2⟩ := ho.cs_facts
  have hn2 := hI.n2
  have hn5 := hI.n5
  rw [← csIs_len he] at hn2 hn5
  obtain ⟨N, hN⟩ : ∃ N, N = rs.length := ⟨_, rfl⟩
  rw [← hN] at c0 hn2 hn5 hc1
  have hNm : c.mem.length = N := by rw [← csIs_len he, hN]
  obtain ⟨E, hE'⟩ : ∃ E, E = csSayErr c who word := ⟨_, rfl⟩
  rw [← hE'] at hE ⊢
  unfold csSayErr at hE'
  rw [hNm] at hE'
  by_cases hw0 : who < 0
  · have hE1 : E = 1 := by rw [hE', if_pos (by unfold inR; simp; omega)]
    have t1 : decide (who < 0) = true := decide_eq_true hw0
    subst hE1
    clear hE'
    have H := Lib.hid h; have HI := Lib.hid hI; have HE := Lib.hid hE; have HO := Lib.hid ho; have HE := Lib.hid he; have HN := Lib.hid hN; have HNM := Lib.hid hNm; have HW0 := Lib.hid hw0
    clear h hI hE ho he hN hNm hw0
    go_enter Tryd.func37, Tryd.ntmps37
    go_wp2
    go_ret
    exact ⟨rfl, H.out⟩
  have t1 : decide (who < 0) = false := decide_eq_false hw0
  by_cases hwn : (N : Int) ≤ who
  · have hE1 : E = 1 := by rw [hE', if_pos (by unfold inR; simp; omega)]
    have t2 : decide ((N : Int) ≤ who) = true := decide_eq_true hwn
    subst hE1
    clear hE'
    have H := Lib.hid h; have HI := Lib.hid hI; have HE := Lib.hid hE; have HO := Lib.hid ho; have HE := Lib.hid he; have HN := Lib.hid hN; have HNM := Lib.hid hNm; have HW0 := Lib.hid hw0; have HWN := Lib.hid hwn
    clear h hI hE ho he hN hNm hw0 hwn
    go_enter Tryd.func37, Tryd.ntmps37
    go_wp2
    go_ret
    exact ⟨rfl, H.out⟩
  have t2 : decide ((N : Int) ≤ who) = false := decide_eq_false hwn
  rw [if_neg (by unfold inR; simp; omega)] at hE'
  cases hwd : isWord word
  · rw [if_pos hwd] at hE'
    subst hE'
    have H := Lib.hid h; have HI := Lib.hid hI; have HE := Lib.hid hE; have HO := Lib.hid ho; have HE := Lib.hid he; have HN := Lib.hid hN; have HNM := Lib.hid hNm; have HW0 := Lib.hid hw0; have HWN := Lib.hid hwn; have HWD := Lib.hid hwd
    clear h hI hE ho he hN hNm hw0 hwn hwd
    go_enter Tryd.func37, Tryd.ntmps37
    go_wp2_with fail
    refine (word_any _ _).mono ?_
    rintro e w' ⟨rfl, rfl⟩
    rw [HWD.out]
    go_wp2
    go_ret
    exact ⟨rfl, H.out⟩
  rw [if_neg (by rw [hwd]; simp)] at hE'
  cases hsm : (mget c.said word).isSome
  · rw [hsm, if_neg (by simp)] at hE'
    exfalso
    split at hE' <;> omega
  rw [hsm, if_pos rfl] at hE'
  have hlk := ho.cs_look word (isWord_I64 hwd) true
  rw [csIs_some he, hsm, if_pos rfl] at hlk
  obtain ⟨r, hr⟩ : ∃ r, r = (mget ss word).getD nilSdR := ⟨_, rfl⟩
  rw [← hr] at hlk
  unfold sdV at hlk
  obtain ⟨rv, rsd⟩ := r
  dsimp only at hlk
  have hrow : Own w0 (sdRow ((mget ss word).getD nilSdR) * _) w := (ho.cs_map.ms_take nilSdR sdRow_nil word)
  rw [← hr] at hrow
  obtain ⟨ad, cp, hrv⟩ := Own.int_shape hrow
  dsimp only at hrv
  rw [hrv] at hlk
  subst hE'
  clear hrow hr
  have H := Lib.hid h; have HI := Lib.hid hI; have HE := Lib.hid hE; have HO := Lib.hid ho; have HE := Lib.hid he; have HN := Lib.hid hN; have HNM := Lib.hid hNm; have HW0 := Lib.hid hw0; have HWN := Lib.hid hwn; have HWD := Lib.hid hwd; have HSM := Lib.hid hsm
  clear h hI hE ho he hN hNm hw0 hwn hwd hsm
  go_enter Tryd.func37, Tryd.ntmps37
  go_wp2_with fail
  refine (word_any _ _).mono ?_
  rintro e w' ⟨rfl, rfl⟩
  rw [HWD.out]
  go_wp2
  go_ret
  exact ⟨rfl, H.out.alloc' _⟩
end Go.Proofs.YtldmdenojpnldaaDoor
