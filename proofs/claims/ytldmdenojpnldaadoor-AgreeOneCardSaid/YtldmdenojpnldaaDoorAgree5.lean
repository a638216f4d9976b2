/- Contracts of package agree, continued: check, Say, Heard. -/
import Derived.Test.YtldmdenojpnldaaDoorAgree4
namespace Go.Proofs.YtldmdenojpnldaaDoor
set_option linter.unusedVariables false
set_option linter.unusedSimpArgs false
open Go.RowKit Go.Maps
theorem mapgv_kind : Tryd.prog.underlying 158 = some (.map 3 168) := by kernel_rfl
theorem mapwho_kind : Tryd.prog.underlying 159 = some (.map 3 36) := by kernel_rfl
theorem stamps_zero : ∀ w, (zeroValue 168).run Tryd.prog w = .ok (.slice none 0 0) w := fun _ => by kernel_rfl
section
variable {w0 w : World} {p rb off cap gb wb : Nat} {rs : List AgR} {gs : List GRow} {ws : List WRow} {g : Ag} {R : HProp}
theorem Own.ag_gvlook (h : Own w0 (AgO p rb off cap gb wb rs gs ws * R) w) (x : Int) (hx : I64 x) (c : Bool) :
    (Instr.lookup 158 (.map (some gb)) (.int .i64 x) c).run Tryd.prog w = .ok (if c then .tuple #[((mget gs x).getD nilSt).1, .bool (mget gs x).isSome] else ((mget gs x).getD nilSt).1) w := by
  have h1 := (h.ag_gv.perm (show _ = Mp iK I64 gb (mvals Prod.fst gs) * _ by unfold MpS; rw [star_assoc])).map_look (int_ke int_kind) mapgv_kind stamps_zero hx c
  have h2 := mget_val Prod.fst gs x nilSt
  rw [show (nilSt).1 = Value.slice none 0 0 from rfl] at h2
  rw [h2, mget_mvals, Option.isSome_map] at h1
  exact h1
theorem agIs_some (he : agIs rs gs ws g) (x : Int) : (mget gs x).isSome = (mget g.given x).isSome := by
  rw [← he.2.1, mget_mvals, Option.isSome_map]
theorem agIs_len (he : agIs rs gs ws g) : rs.length = g.mem.length := by rw [← he.1, List.length_map]
theorem agIs_gv (he : agIs rs gs ws g) (x : Int) : ((mget gs x).getD nilSt).2 = gvOf g x := by
  unfold gvOf; rw [← he.2.1, mget_mvals]; cases mget gs x <;> rfl
end
theorem inR_iff {i : Int} {n : Nat} : inR i n = true ↔ 0 ≤ i ∧ i < n := by unfold inR; simp
set_option maxRecDepth 100000 in
set_option maxHeartbeats 4000000 in
theorem agCheck_any {w0 w : World} {R : HProp} (p : Nat) (g : Ag) (who word : Int) (h : Own w0 (AgP p g * R) w) :
    Calls Tryd.prog 80 #[.pointer (some ⟨p, 0, none⟩), .int .i64 who, .int .i64 word] w fun e w' => e = .returned (errV (agChk g who word)) ∧ w = w' := by
  obtain ⟨rb, off, cap, gb, wb, rs, gs, ws, he, ho⟩ := h.ag_open
  obtain ⟨c0, c1, c2, _, _, _, _⟩ := ho.ag_facts
  obtain ⟨n, hn⟩ : ∃ n, n = rs.length := ⟨_, rfl⟩
  have hgl : g.mem.length = n := by rw [hn, agIs_len he]
  rw [← hn] at c0
  obtain ⟨E, hE⟩ : ∃ E, E = agChk g who word := ⟨_, rfl⟩
  rw [← hE]
  unfold agChk at hE
  rw [hgl, ← agIs_some he] at hE
  cases hin : inR who n
  · rw [hin, if_pos rfl] at hE
    subst hE
    by_cases h0 : who < 0
    · have t0 : decide (who < 0) = true := by simpa using h0
      have H := Lib.hid h; have HO := Lib.hid ho; have HE := Lib.hid he; have HN := Lib.hid hn; have HGL := Lib.hid hgl; have HIN := Lib.hid hin; have H0 := Lib.hid h0
      clear h ho he hn hgl hin h0
      go_enter Tryd.func80, Tryd.ntmps80
      go_wp2
      go_ret
      exact ⟨rfl, rfl⟩
    · have t0 : decide (who < 0) = false := by simpa using h0
      have t1 : decide ((n : Int) ≤ who) = true := decide_eq_true (by have := mt (inR_iff (i := who) (n := n)).2 (by rw [hin]; simp); omega)
      have H := Lib.hid h; have HO := Lib.hid ho; have HE := Lib.hid he; have HN := Lib.hid hn; have HGL := Lib.hid hgl; have HIN := Lib.hid hin; have H0 := Lib.hid h0
      clear h ho he hn hgl hin h0
      go_enter Tryd.func80, Tryd.ntmps80
      go_wp2
      go_ret
      exact ⟨rfl, rfl⟩
  obtain ⟨i0, i1⟩ := inR_iff.1 hin
  have t0 : decide (who < 0) = false := decide_eq_false (by omega)
  have t1 : decide ((n : Int) ≤ who) = false := decide_eq_false (by omega)
  rw [hin, if_neg (show ¬ true = false by simp)] at hE
  cases hw : isWord word
  · rw [hw, if_pos rfl] at hE
    subst hE
    have H := Lib.hid h; have HO := Lib.hid ho; have HE := Lib.hid he; have HN := Lib.hid hn; have HGL := Lib.hid hgl; have HIN := Lib.hid hin; have HW := Lib.hid hw; have I0 := Lib.hid i0; have I1 := Lib.hid i1
    clear h ho he hn hgl hin hw i0 i1
    go_enter Tryd.func80, Tryd.ntmps80
    go_wp2_with fail
    refine (word_any _ _).mono ?_
    rintro e w' ⟨rfl, rfl⟩
    rw [HW.out]
    go_wp2
    go_ret
    exact ⟨rfl, rfl⟩
  rw [hw, if_neg (show ¬ true = false by simp)] at hE
  have hlk := ho.ag_gvlook word (isWord_I64 hw) true
  rw [if_pos rfl] at hlk
  obtain ⟨V, hV⟩ : ∃ V, V = ((mget gs word).getD nilSt).1 := ⟨_, rfl⟩
  obtain ⟨D, hD⟩ : ∃ D, D = (mget gs word).isSome := ⟨_, rfl⟩
  rw [← hV, ← hD] at hlk
  rw [← hD] at hE
  cases D
  · rw [if_pos rfl] at hE
    subst hE
    have H := Lib.hid h; have HO := Lib.hid ho; have HE := Lib.hid he; have HN := Lib.hid hn; have HGL := Lib.hid hgl; have HIN := Lib.hid hin; have HW := Lib.hid hw; have I0 := Lib.hid i0; have I1 := Lib.hid i1; have HV := Lib.hid hV; have HD := Lib.hid hD
    clear h ho he hn hgl hin hw i0 i1 hV hD
    go_enter Tryd.func80, Tryd.ntmps80
    go_wp2_with fail
    refine (word_any _ _).mono ?_
    rintro e w' ⟨rfl, rfl⟩
    rw [HW.out]
    go_wp2
    go_ret
    exact ⟨rfl, rfl⟩
  · rw [if_neg (show ¬ true = false by simp)] at hE
    subst hE
    have H := Lib.hid h; have HO := Lib.hid ho; have HE := Lib.hid he; have HN := Lib.hid hn; have HGL := Lib.hid hgl; have HIN := Lib.hid hin; have HW := Lib.hid hw; have I0 := Lib.hid i0; have I1 := Lib.hid i1; have HV := Lib.hid hV; have HD := Lib.hid hD
    clear h ho he hn hgl hin hw i0 i1 hV hD
    go_enter Tryd.func80, Tryd.ntmps80
    go_wp2_with fail
    refine (word_any _ _).mono ?_
    rintro e w' ⟨rfl, rfl⟩
    rw [HW.out]
    go_wp2
    go_ret
    exact ⟨rfl, rfl⟩
set_option maxRecDepth 100000 in
set_option maxHeartbeats 4000000 in
theorem agSay_any {w0 w : World} {R : HProp} (p : Nat) (g : Ag) (word : Int) (h : Own w0 (AgP p g * R) w) :
    Calls Tryd.prog 49 #[.pointer (some ⟨p, 0, none⟩), .int .i64 word] w fun e w' => e = .returned (errV (agSayErr g word)) ∧ Own w0 (AgP p (agSay g word) * R) w' := by
  obtain ⟨rb, off, cap, gb, wb, rs, gs, ws, he, ho⟩ := h.ag_open
  obtain ⟨c0, c1, c2, _, _, _, _⟩ := ho.ag_facts
  obtain ⟨E, hE⟩ : ∃ E, E = agSayErr g word := ⟨_, rfl⟩
  obtain ⟨S, hS⟩ : ∃ S, S = agSay g word := ⟨_, rfl⟩
  rw [← hE, ← hS]
  unfold agSay at hS
  rw [← hE] at hS
  unfold agSayErr at hE
  rw [← agIs_some he] at hE
  cases hw : isWord word
  · rw [hw, if_pos rfl] at hE
    subst hE
    rw [if_neg (by decide)] at hS
    subst hS
    have H := Lib.hid h; have HO := Lib.hid ho; have HE := Lib.hid he; have HW := Lib.hid hw
    clear h ho he hw
    go_enter Tryd.func49, Tryd.ntmps49
    go_wp2_with fail
    refine (word_any _ _).mono ?_
    rintro e w' ⟨rfl, rfl⟩
    rw [HW.out]
    go_wp2
    go_ret
    exact ⟨rfl, H.out⟩
  rw [hw, if_neg (show ¬ true = false by simp)] at hE
  have hwI := isWord_I64 hw
  have hlk := ho.ag_gvlook word hwI true
  rw [if_pos rfl] at hlk
  obtain ⟨V, hV⟩ : ∃ V, V = ((mget gs word).getD nilSt).1 := ⟨_, rfl⟩
  obtain ⟨D, hD⟩ : ∃ D, D = (mget gs word).isSome := ⟨_, rfl⟩
  rw [← hV, ← hD] at hlk
  rw [← hD] at hE
  cases D
  rotate_left
  · rw [if_pos rfl] at hE
    subst hE
    rw [if_neg (by decide)] at hS
    subst hS
    have H := Lib.hid h; have HO := Lib.hid ho; have HE := Lib.hid he; have HW := Lib.hid hw; have HV := Lib.hid hV; have HD := Lib.hid hD; have HWI := Lib.hid hwI
    clear h ho he hw hV hD hwI
    go_enter Tryd.func49, Tryd.ntmps49
    go_wp2_with fail
    refine (word_any _ _).mono ?_
    rintro e w' ⟨rfl, rfl⟩
    rw [HW.out]
    go_wp2
    go_ret
    exact ⟨rfl, H.out⟩
  rw [if_neg (show ¬ false = true by simp)] at hE
  subst hE
  rw [if_pos rfl] at hS
  have hnone : mget gs word = none := by
    cases hg : mget gs word with
    | none => rfl
    | some x => rw [hg] at hD; cases hD
  have HGV : Hid (Own w0 (Mp iK I64 gb (mvals Prod.fst gs) * (starL (fun q : GRow => stP q.2) gs * (agHd p rb off rs.length cap gb wb * (TabO agM agV 163 rb off cap rs * (MpS iK I64 rowP Prod.fst wb ws * R))))) w) := Lib.hid (ho.ag_gv.perm (by unfold MpS; ac_rfl))
  have hclose : ∀ w', Own w0 (Mp iK I64 gb (mput (mvals Prod.fst gs) word (.slice none 0 0)) * (starL (fun q : GRow => stP q.2) gs * (agHd p rb off rs.length cap gb wb * (TabO agM agV 163 rb off cap rs * (MpS iK I64 rowP Prod.fst wb ws * R))))) w' → Own w0 (AgP p S * R) w' := fun w' h' => by
    have hm : mput gs word nilSt = gs ++ [(word, nilSt)] := mput_new (mget_none.1 hnone)
    have hmv : mput (mvals Prod.fst gs) word (.slice none 0 0) = mvals Prod.fst (mput gs word nilSt) := by rw [← mput_mvals]; rfl
    refine Own.ag_close (rb := rb) (off := off) (cap := cap) (gb := gb) (wb := wb) (rs := rs) (gs := mput gs word nilSt) (ws := ws) ?_ (h'.perm ?_)
    · rw [hS]
      refine ⟨he.1, ?_, he.2.2⟩
      show mvals Prod.snd (mput gs word nilSt) = mput g.given word []
      rw [← mput_mvals, he.2.1]; rfl
    · rw [hmv]
      unfold AgO MpS
      rw [hm, starL_snoc, show stP (((word, nilSt) : GRow)).2 = emp from stP_nil, emp_star]
      ac_rfl
  have H := Lib.hid h; have HO := Lib.hid ho; have HE := Lib.hid he; have HW := Lib.hid hw; have HV := Lib.hid hV; have HD := Lib.hid hD; have HWI := Lib.hid hwI; have HS := Lib.hid hS; have HNONE := Lib.hid hnone; have HCLOSE := Lib.hid hclose
  clear h ho he hw hV hD hwI hS hnone hclose
  go_enter Tryd.func49, Tryd.ntmps49
  go_wp2_with fail
  refine (word_any _ _).mono ?_
  rintro e w' ⟨rfl, rfl⟩
  rw [HW.out]
  go_wp2_with (at_mapUpdate; refine wpList_put (v := .slice none 0 0) (x := word) (int_ke int_kind) mapgv_kind HGV.out HWI.out rfl _ _ _ rfl rfl rfl rfl ?_; intro w1 ho1; have HO1 := Lib.hid (HCLOSE.out _ ho1); clear ho1)
  go_ret
  exact ⟨rfl, HO1.out⟩
set_option maxRecDepth 100000 in
set_option maxHeartbeats 4000000 in
theorem agHeard_any {w0 w : World} {R : HProp} (p : Nat) (g : Ag) (who : Int) (hI : ∀ k : Nat, k < g.mem.length → (agGet g k).heard.length ≤ 1000 ∧ ∀ x ∈ (agGet g k).heard, I64 x) (h : Own w0 (AgP p g * R) w) :
    Calls Tryd.prog 53 #[.pointer (some ⟨p, 0, none⟩), .int .i64 who] w fun e w' => ∃ v', e = .returned (.tuple #[v', errV (agHeardErr g who)]) ∧ Own w0 (IntSl v' (agHeard g who) * (AgP p g * R)) w' := by
  obtain ⟨rb, off, cap, gb, wb, rs, gs, ws, he, ho⟩ := h.ag_open
  obtain ⟨c0, c1, c2, _, cm, hc1, hc2⟩ := ho.ag_facts
  have hgl := agIs_len he
  unfold maxLen at hc2
  cases hin : inR who rs.length
  · have hE : agHeardErr g who = 1 := by unfold agHeardErr; rw [← hgl, hin]; rfl
    have hS : agHeard g who = [] := by unfold agHeard; rw [← hgl, hin]; rfl
    rw [hE, hS]
    have HR := Lib.hid (h.sl_nil 3 1)
    obtain ⟨n, hn⟩ : ∃ n, n = rs.length := ⟨_, rfl⟩
    rw [← hn] at c0 hin hc1
    by_cases h0 : who < 0
    · have t0 : decide (who < 0) = true := by simpa using h0
      have H := Lib.hid h; have HO := Lib.hid ho; have HE := Lib.hid he; have HN := Lib.hid hn; have HGL := Lib.hid hgl; have HIN := Lib.hid hin; have H0 := Lib.hid h0; have HE := Lib.hid hE; have HS := Lib.hid hS; have HI := Lib.hid hI; have CM := Lib.hid cm
      clear h ho he hn hgl hin h0 hE hS hI cm
      go_enter Tryd.func53, Tryd.ntmps53
      go_wp2
      go_ret2
      exact ⟨_, rfl, HR.out⟩
    · have t0 : decide (who < 0) = false := by simpa using h0
      have t1 : decide ((n : Int) ≤ who) = true := decide_eq_true (by have := mt (inR_iff (i := who) (n := n)).2 (by rw [hin]; simp); omega)
      have H := Lib.hid h; have HO := Lib.hid ho; have HE := Lib.hid he; have HN := Lib.hid hn; have HGL := Lib.hid hgl; have HIN := Lib.hid hin; have H0 := Lib.hid h0; have HE := Lib.hid hE; have HS := Lib.hid hS; have HI := Lib.hid hI; have CM := Lib.hid cm
      clear h ho he hn hgl hin h0 hE hS hI cm
      go_enter Tryd.func53, Tryd.ntmps53
      go_wp2
      go_ret2
      exact ⟨_, rfl, HR.out⟩
  obtain ⟨i0, i1⟩ := inR_iff.1 hin
  obtain ⟨k, rfl⟩ : ∃ k : Nat, who = (k : Int) := ⟨who.toNat, by omega⟩
  have hk : k < rs.length := by omega
  have hkg : k < g.mem.length := by omega
  have hmk : g.mem[k] = rs[k].m := by
    have e : g.mem[k]? = some rs[k].m := by rw [← he.1, List.getElem?_map, List.getElem?_eq_getElem hk]; rfl
    exact (List.getElem?_eq_some_iff.1 e).2
  have hE : agHeardErr g k = 0 := by unfold agHeardErr; rw [← hgl, hin]; rfl
  have hS : agHeard g k = rs[k].m.heard := by unfold agHeard; rw [← hgl, hin, agGet_at hkg, hmk]; rfl
  obtain ⟨hb1, hb2⟩ := hI k hkg
  rw [agGet_at hkg, hmk] at hb1 hb2
  rw [hE, hS]
  have c5 := cm k rs[k] (by simp [hk])
  have ht := ho.ag_take hk
  obtain ⟨_, _, _, d3, _⟩ := ht.agm_facts
  have hrd : Ints w rs[k].hv rs[k].m.heard := IntSl_reads hb2 _ ht.agm_heard
  obtain ⟨r, hr⟩ : ∃ r, r = rs[k] := ⟨_, rfl⟩
  rw [← hr] at c5 d3 hrd hb1 hb2 ⊢
  obtain ⟨rp, hrp⟩ : ∃ x, x = r.p := ⟨_, rfl⟩
  unfold agV at c5
  rw [← hrp] at c5 d3
  obtain ⟨ad, cp, hs, _, _⟩ := hrd.shape
  rw [hs] at d3 hrd
  obtain ⟨L, hL⟩ : ∃ L, L = r.m.heard := ⟨_, rfl⟩
  rw [← hL] at hrd hb1 d3 ⊢
  obtain ⟨n, hn⟩ : ∃ n, n = rs.length := ⟨_, rfl⟩
  rw [← hn] at c0 hk hc1 i1
  have t0 : decide ((k : Int) < 0) = false := decide_eq_false (by omega)
  have t1 : decide (n ≤ k) = false := decide_eq_false (by omega)
  have t1' : decide ((n : Int) ≤ (k : Int)) = false := decide_eq_false (by omega)
  have H := Lib.hid h; have HO := Lib.hid ho; have HE := Lib.hid he; have HN := Lib.hid hn; have HGL := Lib.hid hgl; have HIN := Lib.hid hin; have HE := Lib.hid hE; have HS := Lib.hid hS; have HI := Lib.hid hI; have CM := Lib.hid cm; have HT := Lib.hid ht; have HR := Lib.hid hr; have HRP := Lib.hid hrp; have HS := Lib.hid hs; have HL := Lib.hid hL; have HB2 := Lib.hid hb2; have HMK := Lib.hid hmk; have HRD := Lib.hid hrd
  clear h ho he hn hgl hin hE hS hI cm ht hr hrp hs hL hb2 hmk hrd
  go_enter Tryd.func53, Tryd.ntmps53
  go_wp2_with fail
  refine (cloneInts_any H.out _ L HRD.out (by omega)).mono ?_
  rintro e w2 ⟨v', rfl, ho2⟩
  have HO2 := Lib.hid ho2
  clear ho2
  go_wp2
  go_ret2
  exact ⟨v', rfl, HO2.out⟩
end Go.Proofs.YtldmdenojpnldaaDoor
