/- Contracts of package agree, continued: Settle. -/
import Derived.Test.YtpgonkecicmanaaDoorMAgreePlays9
import Derived.Test.YtpgonkecicmanaaDoorMAgreePlays2
import Derived.Test.YtpgonkecicmanaaDoorMAgreePlays6
import Derived.Deep.DeepCutAuto
import Derived.Deep.CutBlock
namespace Go.Proofs.YtpgonkecicmanaaDoor
set_option linter.unusedVariables false
set_option linter.unusedSimpArgs false
open Go.RowKit Go.Maps
section
variable {w0 w : World} {p rb off cap gb wb : Nat} {rs : List AgR} {gs : List GRow} {ws : List WRow} {g : Ag} {R : HProp}
theorem st_get : ∀ (l : List St) (i j : Nat) (hi : i < l.length), j < 2 → (l.flatMap stCells)[i * 2 + j]? = (stCells l[i])[j]?
  | x :: r, 0, j, _, hj => by
    rw [List.flatMap_cons, Nat.zero_mul, Nat.zero_add, List.getElem?_append_left (by simp [stCells]; omega)]; rfl
  | x :: r, i + 1, j, hi, hj => by
    have ih := st_get r i j (by simpa using hi) hj
    rw [List.flatMap_cons, List.getElem?_append_right (by simp [stCells]; omega), show (i + 1) * 2 + j - (stCells x).length = i * 2 + j by simp [stCells]; omega, ih]
    simp
/-- A word's stamps where they lie, in every world that owns the group. -/
theorem Own.ag_gvat (h : Own w0 (AgO p rb off cap gb wb rs gs ws * R) w) (x : Int) (l : List St) (hl : ((mget gs x).getD nilSt).2 = l) (h0 : 0 < l.length) :
    ∃ sb so vc, ((mget gs x).getD nilSt).1 = .slice (some ⟨sb, so, none⟩) l.length vc ∧ l.length ≤ vc ∧ vc ≤ 9223372036854775807 ∧
      ∀ w' R', Own w0 (AgO p rb off cap gb wb rs gs ws * R') w' → ∀ (j : Nat) (hj : j < l.length), w'.cell? ⟨sb, so + j * 2, none⟩ = some (.int .i64 l[j].1) ∧ w'.cell? ⟨sb, so + j * 2 + 1, none⟩ = some (.int .i64 l[j].2) := by
  have h1 := h.ag_gvtake x
  unfold stP at h1
  rw [hl] at h1
  obtain ⟨sb, so, vc, hv, h2⟩ := h1.slAt (by rw [st_len]; omega)
  obtain ⟨h3, h4, _, _, _⟩ := h2.slAt_facts
  refine ⟨sb, so, vc, hv, h3, by unfold maxLen at h4; omega, fun w' R' h' j hj => ?_⟩
  have k1 := h'.ag_gvtake x
  unfold stP at k1
  rw [hl] at k1
  obtain ⟨sb', so', vc', hv', k2⟩ := k1.slAt (by rw [st_len]; omega)
  rw [hv] at hv'
  injection hv' with e1 e2 e3
  injection e1 with e1
  injection e1 with e4 e5
  subst e4 e5 e3
  obtain ⟨_, _, _, hc, _⟩ := k2.slAt_facts
  refine ⟨hc (j * 2) _ (st_get l j 0 hj (by omega)), ?_⟩
  rw [Nat.add_assoc]
  exact hc (j * 2 + 1) _ (st_get l j 1 hj (by omega))
theorem Own.agm_look {r : AgR} (h : Own w0 (agM r * R) w) (x : Int) (hx : I64 x) :
    (Instr.lookup 133 (.map (some r.mb2)) (.int .i64 x) false).run Tryd.prog w = .ok (.bool (decide (x ∈ r.m.knew))) w := by
  have h1 := h.agm_knew.map_look (int_ke int_kind) mapint_kind bool_zero hx false
  rw [mget_setM, if_neg (by decide)] at h1
  exact h1
theorem agm_know {mp mb1 mb2 : Nat} {hv : Value} {n : Int} {W : List (Int × Wt)} {K H : List Int} (x : Int)
    (h : Own w0 (IMp mb2 (mput (setM K) x (.bool true)) * (agBlk mp mb1 mb2 n hv * (IMp mb1 (mvals wtV W) * (IntSl hv H * R)))) w) : Own w0 (agM ⟨mp, mb1, mb2, hv, ⟨n, W, setPut K x, H⟩⟩ * R) w := by
  rw [mput_setPut] at h
  refine h.perm ?_
  unfold agM
  ac_rfl
end
/-- The stamps met so far. -/
def maxTo (l : List St) (j : Nat) : St := (l.take j).foldl stMax (l.headD (0, 0))
theorem maxTo_0 (l : List St) : maxTo l 0 = l.headD (0, 0) := rfl
theorem maxTo_all (l : List St) : maxTo l l.length = maxSt l := by unfold maxTo maxSt; rw [List.take_length]
theorem maxTo_step {l : List St} {j : Nat} (hj : j < l.length) : maxTo l (j + 1) = if stLess (maxTo l j) l[j] = true then l[j] else maxTo l j := by
  unfold maxTo
  rw [List.take_add_one, List.getElem?_eq_getElem hj, List.foldl_append]
  rfl
theorem agSetErr_chk {g : Ag} {who word : Int} (h : agChk g who word ≠ 0) : agSetErr g who word = agChk g who word := by unfold agSetErr; rw [if_pos h]
set_option maxRecDepth 100000 in
set_option maxHeartbeats 4000000 in
theorem agSettle_any {w0 w : World} {R : HProp} (p : Nat) (g : Ag) (who word : Int) (hI : AgI g) (h5 : g.mem.length ≤ 5) (h : Own w0 (AgP p g * R) w) :
    Calls Tryd.prog 16 #[.pointer (some ⟨p, 0, none⟩), .int .i64 who, .int .i64 word] w fun e w' => ∃ v', e = .returned (.tuple #[v', errV (agSetErr g who word)]) ∧ Own w0 (IntSl v' (agSetOut g who word) * (AgP p (agSet g who word) * R)) w' := by
  have hbad : agSetErr g who word ≠ 0 → ∀ w', Own w0 (AgP p g * R) w' → Own w0 (IntSl (.slice none 0 0) (agSetOut g who word) * (AgP p (agSet g who word) * R)) w' := fun he w' h' => by
    unfold agSetOut agSet
    rw [if_neg he, if_neg he]
    exact (h'.sl_nil 3 1).perm (by unfold IntSl; simp only [List.length_nil, List.map_nil])
  by_cases hc : agChk g who word = 0
  rotate_left
  · have hE := agSetErr_chk hc
    obtain ⟨mm, hmm⟩ := errV_some hc
    rw [hE, hmm]
    have HF := Lib.hid (hbad (by rw [hE]; exact hc) _ h)
    have HE := Lib.hid hE; have HC := Lib.hid hc; have HMM := Lib.hid hmm; have HI := Lib.hid hI; have HBAD := Lib.hid hbad; have H := Lib.hid h
    clear hE hc hmm hI hbad h
    go_enter Tryd.func16, Tryd.ntmps16
    go_wp2_with fail
    refine (agCheck_any p g who word H.out).mono ?_
    rintro e w' ⟨rfl, rfl⟩
    rw [HMM.out]
    go_wp2
    go_ret2
    exact ⟨_, rfl, HF.out⟩
  obtain ⟨⟨hw0, hwl⟩, hword, hsome⟩ := agChk0 hc
  have hwd := isWord_I64 hword
  obtain ⟨k, rfl⟩ : ∃ k : Nat, who = (k : Int) := ⟨who.toNat, by omega⟩
  have hkg : k < g.mem.length := by omega
  obtain ⟨rb, off, cap, gb, wb, rs, gs, ws, he, ho⟩ := h.ag_open
  obtain ⟨c0, c1, _, _, cm, hc1, hc2⟩ := ho.ag_facts
  unfold maxLen at hc2
  have hgl := agIs_len he
  have hkr : k < rs.length := by omega
  obtain ⟨l, hl⟩ : ∃ l, l = gvOf g word := ⟨_, rfl⟩
  have hgl2 : ((mget gs word).getD nilSt).2 = l := by rw [hl, agIs_gv he]
  have hlk := ho.drew.ag_gvlook word hwd false
  rw [if_neg (by simp)] at hlk
  obtain ⟨V, hV⟩ : ∃ V, V = ((mget gs word).getD nilSt).1 := ⟨_, rfl⟩
  obtain ⟨N, hN⟩ : ∃ N, N = rs.length := ⟨_, rfl⟩
  have hmk : g.mem[k] = rs[k].m := by
    have e : g.mem[k]? = some rs[k].m := by rw [← he.1, List.getElem?_map, List.getElem?_eq_getElem hkr]; rfl
    exact (List.getElem?_eq_some_iff.1 e).2
  have c5 := cm k rs[k] (by simp [hkr])
  have hk : k < N := by omega
  have iN : (k : Int) < (N : Int) := by omega
  obtain ⟨L, hL⟩ : ∃ L, L = l.length := ⟨_, rfl⟩
  have hl5 : L ≤ 5 := by rw [hL, hl]; have := hI.len word; omega
  rw [← hN] at c0 hc1
  obtain ⟨r, hr⟩ : ∃ r, r = rs[k] := ⟨_, rfl⟩
  rw [← hr] at c5
  obtain ⟨mp, mb1, mb2, hv, ⟨n, W, K, H⟩⟩ := r
  unfold agV at c5
  dsimp only at c5
  have hgk : agGet g (k : Int) = ⟨n, W, K, H⟩ := by rw [agGet_at hkg, hmk, ← hr]
  have hE1 : agSetErr g k word = if L < N then 6 else if word ∈ K then 7 else 0 := by
    unfold agSetErr
    rw [if_neg (by rw [hc]; simp), hgk, hL, hl, hN, hgl]
  obtain ⟨vad, vcp, hvs, _⟩ : ∃ ad cp, V = .slice ad L cp ∧ True := by
    have h1 := ho.ag_gvtake word
    unfold stP at h1
    rw [hgl2, ← hV, ← hL] at h1
    obtain ⟨ad, cp, e, _⟩ := Own.rd h1
    exact ⟨ad, cp, e, trivial⟩
  rw [← hV, hvs] at hlk
  have hw9 := h
  clear h
  by_cases hlt : L < N
  · rw [if_pos hlt] at hE1
    have tlt : decide ((L : Int) < (N : Int)) = true := decide_eq_true (by omega)
    have HF := Lib.hid (hbad (by rw [hE1]; simp))
    have HEQ := Lib.hid hE1
    have HW9 := Lib.hid hw9; have HO := Lib.hid ho; have HI := Lib.hid hI; have HBAD := Lib.hid hbad; have HC := Lib.hid hc; have HE := Lib.hid he; have HGL := Lib.hid hgl; have HL := Lib.hid hl; have HGL2 := Lib.hid hgl2; have HV := Lib.hid hV; have HN := Lib.hid hN; have HMK := Lib.hid hmk; have HL := Lib.hid hL; have HR := Lib.hid hr; have HGK := Lib.hid hgk; have HVS := Lib.hid hvs; have HWORD := Lib.hid hword; have HSOME := Lib.hid hsome; have CM := Lib.hid cm; have HE1 := Lib.hid hE1; have HWD := Lib.hid hwd
    clear hw9 ho hI hbad hc he hgl hl hgl2 hV hN hmk hL hr hgk hvs hword hsome cm hE1 hwd
    go_enter Tryd.func16, Tryd.ntmps16
    go_wp2_with fail
    refine (agCheck_any p g k word HW9.out).mono ?_
    rintro e w' ⟨rfl, rfl⟩
    rw [HC.out, errV0]
    go_upto_region 5 with fail
    refine wp_region_planH 13 [] [(true, 0), (true, 1), (true, 2), (true, 3), (true, 4), (true, 5), (true, 6), (true, 7), (true, 8), (true, 9), (true, 10), (true, 11), (true, 12)] [13] (fun wS => wS = w.drew) (by kernel_rfl) (by kernel_rfl) (rfl) ?_
    simp only [pickH, pick, List.getElem?_cons_succ, List.getElem?_cons_zero, Option.toList, Option.map_some, List.cons_append, List.nil_append]
    repeat (refine wpPure_step ?_ rfl ?_ ?_; rotate_left; (focus (intro _; first | with_reducible rfl | (go_simp; done) | (go_simp; with_reducible rfl) | rfl)); go_simp)
    refine wpPure_nil ?_
    repeat (refine wpMix_read ?_ rfl ?_ ?_; rotate_left; (focus (intro _ hS; obtain rfl := hS; first | with_reducible rfl | (go_simp; done) | (go_simp; with_reducible rfl) | rfl)); go_simp)
    refine wpMix_nil ?_
    go_wp2_with fail
    refine NoPanic.normal ?_
    go_wp2
    go_ret2
    refine ⟨_, by rw [HEQ.out]; rfl, HF.out _ ?_⟩
    exact HW9.out.drew
  rw [if_neg hlt] at hE1
  have tlt : decide ((L : Int) < (N : Int)) = false := decide_eq_false (by omega)
  have hL0 : 0 < l.length := by omega
  obtain ⟨sb, so, vc, hsv, hvc1, hvc2, hat⟩ := ho.ag_gvat word l hgl2 hL0
  rw [← hV, hvs, ← hL] at hsv
  injection hsv with e1 _ e3
  subst e1 e3
  obtain ⟨w1, hw1⟩ : ∃ x, x = w.drew := ⟨_, rfl⟩
  have ho1 : Own w0 (AgO p rb off cap gb wb rs gs ws * R) w1 := by rw [hw1]; exact ho.drew
  rw [← hw1] at hlk
  have ht := ho1.ag_take hkr
  rw [← hr] at ht
  obtain ⟨d0, d1, d2, _, df⟩ := ht.agm_facts
  have hkw := ht.agm_look word hwd
  obtain ⟨D, hD⟩ : ∃ D, D = decide (word ∈ K) := ⟨_, rfl⟩
  dsimp only at d0 d1 d2 hkw
  rw [← hD] at hkw
  have hlk0 := hlk
  rw [hw1] at hlk0
  cases D
  rotate_left
  · have hK : word ∈ K := of_decide_eq_true hD.symm
    rw [if_pos hK] at hE1
    have HF := Lib.hid (hbad (by rw [hE1]; simp))
    have HEQ := Lib.hid hE1
    have HAG : Hid (Own w0 (AgP p g * R) w1) := Lib.hid (Own.ag_close he ho1)
    clear hlk
    have HW9 := Lib.hid hw9; have HO := Lib.hid ho; have HI := Lib.hid hI; have HBAD := Lib.hid hbad; have HC := Lib.hid hc; have HE := Lib.hid he; have HGL := Lib.hid hgl; have HL := Lib.hid hl; have HGL2 := Lib.hid hgl2; have HV := Lib.hid hV; have HN := Lib.hid hN; have HMK := Lib.hid hmk; have HL := Lib.hid hL; have HR := Lib.hid hr; have HGK := Lib.hid hgk; have HVS := Lib.hid hvs; have HWORD := Lib.hid hword; have HSOME := Lib.hid hsome; have CM := Lib.hid cm; have HE1 := Lib.hid hE1; have HWD := Lib.hid hwd; have HAT := Lib.hid hat; have HO1 := Lib.hid ho1; have HT := Lib.hid ht; have DF := Lib.hid df; have HK := Lib.hid hK; have HD := Lib.hid hD
    clear hw9 ho hI hbad hc he hgl hl hgl2 hV hN hmk hL hr hgk hvs hword hsome cm hE1 hwd hat ho1 ht df hK hD
    go_enter Tryd.func16, Tryd.ntmps16
    go_wp2_with fail
    refine (agCheck_any p g k word HW9.out).mono ?_
    rintro e w' ⟨rfl, rfl⟩
    rw [HC.out, errV0]
    go_upto_region 5 with fail
    refine wp_region_planH 13 [] [(true, 0), (true, 1), (true, 2), (true, 3), (true, 4), (true, 5), (true, 6), (true, 7), (true, 8), (true, 9), (true, 10), (true, 11), (true, 12)] [13] (fun wS => wS = w.drew) (by kernel_rfl) (by kernel_rfl) (rfl) ?_
    simp only [pickH, pick, List.getElem?_cons_succ, List.getElem?_cons_zero, Option.toList, Option.map_some, List.cons_append, List.nil_append]
    repeat (refine wpPure_step ?_ rfl ?_ ?_; rotate_left; (focus (intro _; first | with_reducible rfl | (go_simp; done) | (go_simp; with_reducible rfl) | rfl)); go_simp)
    refine wpPure_nil ?_
    repeat (refine wpMix_read ?_ rfl ?_ ?_; rotate_left; (focus (intro _ hS; obtain rfl := hS; first | with_reducible rfl | (go_simp; done) | (go_simp; with_reducible rfl) | rfl)); go_simp)
    refine wpMix_nil ?_
    go_wp2_with fail
    refine NoPanic.normal ?_
    rw [← hw1]
    clear hw1 c0 c1 c5 hlk0
    go_wp2
    go_ret2
    exact ⟨_, by rw [HEQ.out]; rfl, HF.out _ HAG.out⟩
  have hK : word ∉ K := of_decide_eq_false hD.symm
  rw [if_neg hK] at hE1
  obtain ⟨M, hM⟩ : ∃ M, M = maxSt l := ⟨_, rfl⟩
  have hSM : agSetM g ⟨n, W, K, H⟩ word = ⟨max n M.1, mput W word (M, true), setPut K word, H⟩ := by unfold agSetM; rw [hM, hl]
  have hT : agSetOut g k word = (agHear (mput W word (M, true)).length (mput W word (M, true))).2 := by unfold agSetOut; rw [if_pos hE1, hgk, hSM]
  have hS : agSet g k word = { g with mem := g.mem.set k (agHearM ⟨max n M.1, mput W word (M, true), setPut K word, H⟩) } := by unfold agSet; rw [if_pos hE1, hgk, hSM, Int.toNat_natCast]
  have hfull : (gvOf g word).length = g.mem.length := Nat.le_antisymm (hI.len word) (by rw [← hl, ← hL]; omega)
  have hGv := hI.gv (by omega)
  have hJ := (hI.mem k hkg).settle hGv hfull (hI.full hfull hkg) (by rw [hmk, ← hr]; exact hK)
  rw [hmk, ← hr] at hJ
  dsimp only at hJ
  have hJ : AgMJ (gvOf g) g.mem.length k ⟨max n M.1, mput W word (M, true), setPut K word, H⟩ := by rw [hM, hl]; exact hJ
  have hAP := hJ.apart hGv
  have hWW : ∀ kk y, mget (mput W word (M, true)) kk = some y → isWord kk = true := fun _ _ hx => hJ.word hGv hx
  have hln : H.length + (mput W word (M, true)).length ≤ 1000 := by
    have h1 : H.length ≤ 30 := distinct_le 30 _ hJ.nodup (fun x hx => by
      obtain ⟨s, hs, _⟩ := List.mem_map.1 ((hJ.has x).2 (.inr hx))
      have := gvOf_word hI hs
      simp [isWord] at this; omega)
    have h2 : ((mput W word (M, true)).map (·.1)).length ≤ 30 := distinct_le 30 _ hJ.keys (fun x hx => by
      obtain ⟨q, hq, rfl⟩ := List.mem_map.1 hx
      have h3 : mget (mput W word (M, true)) q.1 ≠ none := fun hc => mget_none.1 hc q hq rfl
      cases h4 : mget (mput W word (M, true)) q.1 with
      | none => exact absurd h4 h3
      | some y => have := hWW _ _ h4; simp [isWord] at this; omega)
    rw [List.length_map] at h2
    omega
  obtain ⟨s0, hs0⟩ : ∃ s, s = l[0] := ⟨_, rfl⟩
  obtain ⟨q0, q1⟩ := hat w1 R ho1 0 hL0
  rw [← hs0, Nat.zero_mul, Nat.add_zero] at q0 q1
  have hmx0 : maxTo l 0 = s0 := by
    rw [maxTo_0, hs0]
    cases l with
    | nil => exact absurd hL0 (by simp)
    | cons a b => rfl
  obtain ⟨l0, l1, _, _, _, _, _⟩ := ho1.ag_facts
  rw [← hN] at l0
  have iL : (0 : Int) < (L : Int) := by omega
  have ns := ho1
  obtain ⟨b2, hb_b2⟩ : ∃ zz_, zz_ = (w1).heap.size := ⟨_, rfl⟩
  obtain ⟨w2, hw_w2⟩ : ∃ zz_, zz_ = (w1).alloc (.cells #[.int .i64 s0.1, .int .i64 s0.2] 32 (0, 0)) := ⟨_, rfl⟩
  have h_HB2 := (ns).alloc (.cells #[.int .i64 s0.1, .int .i64 s0.2] 32 (0, 0))
  rw [← hb_b2, ← hw_w2] at h_HB2
  have HB2 := Lib.hid h_HB2
  clear h_HB2
  clear ns
  have HO2 : Hid (Own w0 (AgO p rb off cap gb wb rs gs ws * (StO b2 s0 * R)) w2) := Lib.hid (HB2.out.perm (by unfold StO; ac_rfl))
  obtain ⟨_, m1, _, _, _, _, _⟩ := HO2.out.ag_facts
  have hlk2 := HO2.out.ag_gvlook word hwd false
  rw [if_neg (by simp), ← hV, hvs] at hlk2
  clear HB2
  have hend : ∀ b w' v' hv', Own w0 (IntSl v' (agHear (mput W word (M, true)).length (mput W word (M, true))).2 * (agM ⟨mp, mb1, mb2, hv', agHearM ⟨max n M.1, mput W word (M, true), setPut K word, H⟩⟩ * (AgX p rb off cap gb wb rs gs ws k * (StO b M * R)))) w' → Own w0 (IntSl v' (agSetOut g k word) * (AgP p (agSet g k word) * R)) w' := fun b w' v' hv' h' => by
    have h1 := h'.perm (show _ = agM ⟨mp, mb1, mb2, hv', agHearM ⟨max n M.1, mput W word (M, true), setPut K word, H⟩⟩ * (AgX p rb off cap gb wb rs gs ws k * (IntSl v' (agHear (mput W word (M, true)).length (mput W word (M, true))).2 * (StO b M * R))) by ac_rfl)
    have h2 := Own.ag_give hkr (by show mp = _; rw [← hr]) h1
    rw [hT]
    have h3 := h2.ag_close (g := agSet g k word) (by
      rw [hS]
      refine ⟨?_, he.2.1, he.2.2⟩
      rw [List.map_set, he.1])
    exact (h3.perm (show _ = StO b M * (IntSl v' _ * (AgP p (agSet g k word) * R)) by ac_rfl)).drop
  have hEZ := hE1
  clear hE1
  have HW9 := Lib.hid hw9; have HO := Lib.hid ho; have HI := Lib.hid hI; have HBAD := Lib.hid hbad; have HC := Lib.hid hc; have HE := Lib.hid he; have HGL := Lib.hid hgl; have HL := Lib.hid hl; have HGL2 := Lib.hid hgl2; have HV := Lib.hid hV; have HN := Lib.hid hN; have HMK := Lib.hid hmk; have HL := Lib.hid hL; have HR := Lib.hid hr; have HGK := Lib.hid hgk; have HVS := Lib.hid hvs; have HWORD := Lib.hid hword; have HSOME := Lib.hid hsome; have CM := Lib.hid cm; have HEZ := Lib.hid hEZ; have HWD := Lib.hid hwd; have HAT := Lib.hid hat; have HO1 := Lib.hid ho1; have HT := Lib.hid ht; have DF := Lib.hid df; have HK := Lib.hid hK; have HD := Lib.hid hD; have HM := Lib.hid hM; have HSM := Lib.hid hSM; have HT := Lib.hid hT; have HS := Lib.hid hS; have HFULL := Lib.hid hfull; have HGV := Lib.hid hGv; have HJ := Lib.hid hJ; have HAP := Lib.hid hAP; have HWW := Lib.hid hWW; have HLN := Lib.hid hln; have HS0 := Lib.hid hs0; have HMX0 := Lib.hid hmx0; have HEND := Lib.hid hend
  clear hw9 ho hI hbad hc he hgl hl hgl2 hV hN hmk hL hr hgk hvs hword hsome cm hEZ hwd hat ho1 ht df hK hD hM hSM hT hS hfull hGv hJ hAP hWW hln hs0 hmx0 hend
  go_enter Tryd.func16, Tryd.ntmps16
  go_wp2_with fail
  refine (agCheck_any p g k word HW9.out).mono ?_
  rintro e w' ⟨rfl, rfl⟩
  rw [HC.out, errV0]
  go_upto_region 5 with fail
  refine wp_region_planH 13 [] [(true, 0), (true, 1), (true, 2), (true, 3), (true, 4), (true, 5), (true, 6), (true, 7), (true, 8), (true, 9), (true, 10), (true, 11), (true, 12)] [13] (fun wS => wS = w.drew) (by kernel_rfl) (by kernel_rfl) (rfl) ?_
  simp only [pickH, pick, List.getElem?_cons_succ, List.getElem?_cons_zero, Option.toList, Option.map_some, List.cons_append, List.nil_append]
  repeat (refine wpPure_step ?_ rfl ?_ ?_; rotate_left; (focus (intro _; first | with_reducible rfl | (go_simp; done) | (go_simp; with_reducible rfl) | rfl)); go_simp)
  refine wpPure_nil ?_
  repeat (refine wpMix_read ?_ rfl ?_ ?_; rotate_left; (focus (intro _ hS; obtain rfl := hS; first | with_reducible rfl | (go_simp; done) | (go_simp; with_reducible rfl) | rfl)); go_simp)
  refine wpMix_nil ?_
  go_wp2_with fail
  refine NoPanic.normal ?_
  rw [← hw1]
  clear hw1 c0 c1 c5 hlk0
  go_upto_region 10 with fail
  rw [← hb_b2, ← hw_w2]
  clear hb_b2 hw_w2
  clear q0 q1 l0 l1 hlk d0 d1 d2 hkw
  go_upto_block 1 with fail
  go_wp2_with fail
  go_loopw [65] (fun iv wr => ∃ j : Nat, j ≤ L ∧ iv = .int .i64 j ∧ Hid (Own w0 (AgO p rb off cap gb wb rs gs ws * (StO b2 (maxTo l j) * R)) wr)) (fun iv _ => L - (intOf iv).toNat)
  case atStart => exact ⟨0, Nat.zero_le _, rfl, by rw [HMX0.out]; exact HO2⟩
  case round =>
    clear HO2 m1 hlk2
    obtain ⟨j, hj, rfl, HJJ⟩ := hrel
    by_cases hlj : j < L
    rotate_left
    · have hjn : j = L := by omega
      subst hjn
      have HT4 : Hid (Own w0 (agM ⟨mp, mb1, mb2, hv, ⟨n, W, K, H⟩⟩ * (AgX p rb off cap gb wb rs gs ws k * (StO b2 M * R))) wr) := Lib.hid (by
        have h1 := HJJ.out
        rw [show maxTo l j = M by rw [HL.out, maxTo_all, HM.out]] at h1
        have h2 := h1.ag_take hkr
        rw [← HR.out] at h2
        exact h2)
      obtain ⟨d0, d1, d2, _, _⟩ := HT4.out.agm_facts
      dsimp only at d0 d1 d2
      clear HJJ
      go_upto_region 17 with (at_mapUpdate; refine wpList_put (v := .bool true) (x := word) (int_ke int_kind) mapint_kind HT4.out.agm_knew HWD.out rfl _ _ _ rfl rfl rfl rfl ?_; intro w5 ho5; have HT5 : Hid (Own w0 (agM ⟨mp, mb1, mb2, hv, ⟨n, W, setPut K word, H⟩⟩ * (AgX p rb off cap gb wb rs gs ws k * (StO b2 M * R))) w5) := Lib.hid (agm_know word ho5); clear ho5)
      clear d0 d1 d2 HT4
      obtain ⟨d0, _, _, _, df⟩ := HT5.out.agm_facts
      have df0 := df 0 none
      dsimp only at d0 df0
      obtain ⟨s0, s1, _⟩ := HT5.out.third.sto
      clear df
      have hfz : ∀ z : Int, z = max n M.1 → Own w0 (agM ⟨mp, mb1, mb2, hv, ⟨max n M.1, W, setPut K word, H⟩⟩ * (AgX p rb off cap gb wb rs gs ws k * (StO b2 M * R))) ((w5.setCell ⟨mp, 0, none⟩ (.int .i64 z)).drew) := by rintro z rfl; exact (agm_n (max n M.1) HT5.out).drew
      have HFZ := Lib.hid hfz
      clear hfz
      refine wp_region_planH 10 [] [(true, 0), (true, 1), (true, 2), (true, 3), (true, 4), (true, 5), (true, 6), (false, 7), (true, 8), (true, 9)] [10] (fun wS => wS = w5.drew) (by kernel_rfl) (by kernel_rfl) (rfl) ?_
      simp only [pickH, pick, List.getElem?_cons_succ, List.getElem?_cons_zero, Option.toList, Option.map_some, List.cons_append, List.nil_append]
      repeat (refine wpPure_step ?_ rfl ?_ ?_; rotate_left; (focus (intro _; first | with_reducible rfl | (go_simp; done) | (go_simp; with_reducible rfl) | rfl)); go_simp)
      refine wpPure_nil ?_
      repeat (refine wpMix_read ?_ rfl ?_ ?_; rotate_left; (focus (intro _ hS; obtain rfl := hS; first | with_reducible rfl | (go_simp; done) | (go_simp; with_reducible rfl) | rfl)); go_simp)
      refine wpMix_write (fun K hK => ?_)
      go_simp
      refine hK _ _ ⟨rfl, ?_⟩
      clear hK K
      go_simp
      repeat (refine wpMix_read ?_ rfl ?_ ?_; rotate_left; (focus (intro _ hS; obtain rfl := hS; first | with_reducible rfl | (go_simp; done) | (go_simp; with_reducible rfl) | rfl)); go_simp)
      refine wpMix_nil ?_
      go_wp2_with fail
      · have ho6 := HFZ.out M.1 (by rw [Int.max_def]; split <;> omega)
        obtain ⟨w6, hw6⟩ : ∃ x, x = (w5.setCell ⟨mp, 0, none⟩ (.int .i64 M.1)).drew := ⟨_, rfl⟩
        rw [← hw6] at ho6
        refine NoPanic.normal ?_
        rw [← hw6]
        have HT6 := Lib.hid ho6
        clear ho6 hw6 d0 df0 s0 s1 h HFZ HT5
        obtain ⟨_, d1, _, _, _⟩ := HT6.out.agm_facts
        dsimp only at d1
        obtain ⟨s0, s1, _⟩ := HT6.out.third.sto
        go_upto_region 18 with fail
        refine wp_region_planH 7 [] [(true, 0), (true, 1), (true, 2), (true, 3), (true, 4), (true, 5), (true, 6)] [7] (fun wS => wS = w6.drew) (by kernel_rfl) (by kernel_rfl) (rfl) ?_
        simp only [pickH, pick, List.getElem?_cons_succ, List.getElem?_cons_zero, Option.toList, Option.map_some, List.cons_append, List.nil_append]
        repeat (refine wpPure_step ?_ rfl ?_ ?_; rotate_left; (focus (intro _; first | with_reducible rfl | (go_simp; done) | (go_simp; with_reducible rfl) | rfl)); go_simp)
        refine wpPure_nil ?_
        repeat (refine wpMix_read ?_ rfl ?_ ?_; rotate_left; (focus (intro _ hS; obtain rfl := hS; first | with_reducible rfl | (go_simp; done) | (go_simp; with_reducible rfl) | rfl)); go_simp)
        refine wpMix_nil ?_
        clear d1 s0 s1
        go_wp2_with (at_mapUpdate; refine wpList_put (v := wtV (M, true)) (x := word) (int_ke int_kind) mapwt_kind HT6.out.drew.agm_waits HWD.out rfl _ _ _ rfl rfl rfl rfl ?_; intro w7 ho7; have HT7 : Hid (Own w0 (agM ⟨mp, mb1, mb2, hv, ⟨max n M.1, mput W word (M, true), setPut K word, H⟩⟩ * (AgX p rb off cap gb wb rs gs ws k * (StO b2 M * R))) w7) := Lib.hid (agm_put word (M, true) ho7); clear ho7)
        refine NoPanic.normal ?_
        clear HT6
        go_wp2_with fail
        refine (agHear_any ⟨mp, mb1, mb2, hv, ⟨max n M.1, mput W word (M, true), setPut K word, H⟩⟩ HWW.out HAP.out HLN.out HT7.out).mono ?_
        rintro e w8 ⟨v', hv', rfl, ho8⟩
        have HEN := Lib.hid (HEND.out _ _ _ _ ho8)
        clear ho8
        go_wp2
        go_ret2
        exact ⟨v', by rw [HEZ.out]; rfl, HEN.out⟩
      · have ho6 := HFZ.out n (by rw [Int.max_def]; split <;> omega)
        obtain ⟨w6, hw6⟩ : ∃ x, x = (w5.setCell ⟨mp, 0, none⟩ (.int .i64 n)).drew := ⟨_, rfl⟩
        rw [← hw6] at ho6
        refine NoPanic.normal ?_
        rw [← hw6]
        have HT6 := Lib.hid ho6
        clear ho6 hw6 d0 df0 s0 s1 h HFZ HT5
        obtain ⟨_, d1, _, _, _⟩ := HT6.out.agm_facts
        dsimp only at d1
        obtain ⟨s0, s1, _⟩ := HT6.out.third.sto
        go_upto_region 18 with fail
        refine wp_region_planH 7 [] [(true, 0), (true, 1), (true, 2), (true, 3), (true, 4), (true, 5), (true, 6)] [7] (fun wS => wS = w6.drew) (by kernel_rfl) (by kernel_rfl) (rfl) ?_
        simp only [pickH, pick, List.getElem?_cons_succ, List.getElem?_cons_zero, Option.toList, Option.map_some, List.cons_append, List.nil_append]
        repeat (refine wpPure_step ?_ rfl ?_ ?_; rotate_left; (focus (intro _; first | with_reducible rfl | (go_simp; done) | (go_simp; with_reducible rfl) | rfl)); go_simp)
        refine wpPure_nil ?_
        repeat (refine wpMix_read ?_ rfl ?_ ?_; rotate_left; (focus (intro _ hS; obtain rfl := hS; first | with_reducible rfl | (go_simp; done) | (go_simp; with_reducible rfl) | rfl)); go_simp)
        refine wpMix_nil ?_
        clear d1 s0 s1
        go_wp2_with (at_mapUpdate; refine wpList_put (v := wtV (M, true)) (x := word) (int_ke int_kind) mapwt_kind HT6.out.drew.agm_waits HWD.out rfl _ _ _ rfl rfl rfl rfl ?_; intro w7 ho7; have HT7 : Hid (Own w0 (agM ⟨mp, mb1, mb2, hv, ⟨max n M.1, mput W word (M, true), setPut K word, H⟩⟩ * (AgX p rb off cap gb wb rs gs ws k * (StO b2 M * R))) w7) := Lib.hid (agm_put word (M, true) ho7); clear ho7)
        refine NoPanic.normal ?_
        clear HT6
        go_wp2_with fail
        refine (agHear_any ⟨mp, mb1, mb2, hv, ⟨max n M.1, mput W word (M, true), setPut K word, H⟩⟩ HWW.out HAP.out HLN.out HT7.out).mono ?_
        rintro e w8 ⟨v', hv', rfl, ho8⟩
        have HEN := Lib.hid (HEND.out _ _ _ _ ho8)
        clear ho8
        go_wp2
        go_ret2
        exact ⟨v', by rw [HEZ.out]; rfl, HEN.out⟩
    have hjl : j < l.length := by rw [← HL.out]; exact hlj
    obtain ⟨x, hx⟩ : ∃ x, x = l[j] := ⟨_, rfl⟩
    obtain ⟨y, hy⟩ : ∃ y, y = maxTo l j := ⟨_, rfl⟩
    have hst := maxTo_step hjl
    rw [← hx, ← hy] at hst
    rw [← hy] at HJJ
    obtain ⟨q0, q1⟩ := HAT.out _ _ HJJ.out j hjl
    rw [← hx] at q0 q1
    have ijl : (j : Int) < (L : Int) := by omega
    have ns := HJJ.out
    obtain ⟨b3, hb_b3⟩ : ∃ zz_, zz_ = (wr).heap.size := ⟨_, rfl⟩
    obtain ⟨w3, hw_w3⟩ : ∃ zz_, zz_ = (wr).alloc (.cells #[.int .i64 x.1, .int .i64 x.2] 32 (0, 0)) := ⟨_, rfl⟩
    have h_HB3 := (ns).alloc (.cells #[.int .i64 x.1, .int .i64 x.2] 32 (0, 0))
    rw [← hb_b3, ← hw_w3] at h_HB3
    have HB3 := Lib.hid h_HB3
    clear h_HB3
    clear ns
    have HO3 : Hid (Own w0 (StO b2 y * (StO b3 x * (AgO p rb off cap gb wb rs gs ws * R))) w3) := Lib.hid (HB3.out.perm (by unfold StO; ac_rfl))
    clear HB3 HJJ
    obtain ⟨y0, y1, _⟩ := HO3.out.sto
    obtain ⟨x0, x1, _⟩ := HO3.out.second.sto
    have HX := Lib.hid hx; have HY := Lib.hid hy; have HST := Lib.hid hst
    clear hx hy hst
    go_upto_region 13 with fail
    rw [← hb_b3, ← hw_w3]
    clear hb_b3 hw_w3
    clear q0 q1
    go_wp2_with fail
    refine (less_any y x HO3.out).mono ?_
    rintro e w4 ⟨rfl, ho4⟩
    clear x0 x1 y0 y1 HO3
    obtain ⟨B, hB⟩ : ∃ B, B = stLess y x := ⟨_, rfl⟩
    have hst2 := HST.out
    rw [← hB] at hst2 ⊢
    cases B
    · rw [if_neg (by simp)] at hst2
      have HO5 : Hid (Own w0 (AgO p rb off cap gb wb rs gs ws * (StO b2 (maxTo l (j + 1)) * R)) w4) := Lib.hid (by rw [hst2]; exact (ho4.perm (show _ = StO b3 x * (AgO p rb off cap gb wb rs gs ws * (StO b2 y * R)) by ac_rfl)).drop)
      clear ho4
      have HB := Lib.hid hB; have HST2 := Lib.hid hst2
      clear hB hst2
      go_wp2
      go_roundw
      case rel => exact ⟨j + 1, by omega, by go_num, HO5⟩
      case measure => simp [intOf]; omega
    · rw [if_pos rfl] at hst2
      obtain ⟨x0, x1, _⟩ := ho4.second.sto
      obtain ⟨_, _, yf⟩ := ho4.sto
      have yf0 := yf 0 none
      have yf1 := yf 1 none
      have hpt := ho4.sto_put x
      have HO5 : Hid (Own w0 (AgO p rb off cap gb wb rs gs ws * (StO b2 (maxTo l (j + 1)) * R)) ((w4.setCell ⟨b2, 0, none⟩ (.int .i64 x.1)).setCell ⟨b2, 1, none⟩ (.int .i64 x.2))) := Lib.hid (by rw [hst2]; exact (hpt.perm (show _ = StO b3 x * (AgO p rb off cap gb wb rs gs ws * (StO b2 x * R)) by ac_rfl)).drop)
      clear ho4 yf hpt
      have HB := Lib.hid hB; have HST2 := Lib.hid hst2
      clear hB hst2
      go_wp2
      go_roundw
      case rel => exact ⟨j + 1, by omega, by go_num, HO5⟩
      case measure => simp [intOf]; omega
end Go.Proofs.YtpgonkecicmanaaDoor
/- Contracts of package view: what is wrong with members, and with a view. -/
namespace Go.Proofs.YtpgonkecicmanaaDoor
set_option linter.unusedVariables false
set_option linter.unusedSimpArgs false
open Go.RowKit
def memGo : Int → List Int → Nat
  | _, [] => 0
  | last, m :: r => if isMember m = false then 1 else if m ≤ last then 3 else memGo m r
def memErr (l : List Int) : Nat := if l = [] then 5 else memGo (-1) l
def viewErr (n : Int) (l : List Int) : Nat := if isCount n = false then 1 else memErr l
set_option maxRecDepth 100000 in
set_option maxHeartbeats 4000000 in
theorem members_any (v : Value) (l : List Int) (w : World) (hl : Ints w v l) :
    Calls Tryd.prog 116 #[v] w fun e w' => e = .returned (errV (memErr l)) ∧ w = w' := by
  obtain ⟨ad, cap, rfl, hlc, hcap⟩ := hl.shape
  have HL := Lib.hid hl
  clear hl
  by_cases h0 : l = []
  · have he : memErr l = 5 := by unfold memErr; rw [if_pos h0]
    have hl0 : l.length = 0 := by rw [h0]; rfl
    have t1 : ((l.length : Int) == 0) = true := by rw [beq_iff_eq]; omega
    have HE := Lib.hid he; have H0 := Lib.hid h0; have HL0 := Lib.hid hl0
    clear he h0 hl0
    go_enter Tryd.func116, Tryd.ntmps116
    go_wp2
    go_ret
    exact ⟨by rw [HE.out]; rfl, rfl⟩
  have hpos : 0 < l.length := by cases l with | nil => exact absurd rfl h0 | cons a r => simp
  have t1 : ((l.length : Int) == 0) = false := by rw [beq_eq_false_iff_ne]; omega
  have he : memErr l = memGo (-1) l := by unfold memErr; rw [if_neg h0]
  have HE := Lib.hid he; have H0 := Lib.hid h0
  clear he h0
  go_enter Tryd.func116, Tryd.ntmps116
  go_wp2_with fail
  go_loop [3, 12] (fun a i => ∃ (k : Nat) (last : Int), k ≤ l.length ∧ i = .int .i64 k ∧ a = .int .i64 last ∧ Hid (memGo last (l.drop k) = memErr l)) (fun _ i => l.length - (intOf i).toNat)
  case atStart => exact ⟨0, -1, Nat.zero_le _, rfl, rfl, Lib.hid HE.out.symm⟩
  case round =>
    obtain ⟨k, last, hk, rfl, rfl, hp⟩ := hrel
    by_cases hlt : k < l.length
    rotate_left
    · have hfin : memErr l = 0 := by
        have := hp.out
        rw [List.drop_of_length_le (by omega)] at this
        exact this.symm
      have HFIN := Lib.hid hfin
      clear hfin
      go_wp2
      go_ret
      exact ⟨by rw [HFIN.out]; rfl, rfl⟩
    obtain ⟨aa, rfl, hca⟩ := HL.out.at k hlt
    obtain ⟨x, hx⟩ : ∃ x, x = l[k] := ⟨_, rfl⟩
    rw [← hx] at hca
    have hd : l.drop k = x :: l.drop (k + 1) := by rw [hx]; exact List.drop_eq_getElem_cons hlt
    have hg := hp.out
    rw [hd, memGo] at hg
    cases hm : isMember x
    · rw [if_pos hm] at hg
      have HM := Lib.hid hm; have HG := Lib.hid hg; have HX := Lib.hid hx; have HD := Lib.hid hd
      clear hm hg hx hd
      go_wp2_with fail
      refine (member_any _ _).mono ?_
      rintro e w' ⟨rfl, rfl⟩
      rw [HM.out]
      go_wp2
      go_ret
      exact ⟨by rw [← HG.out]; rfl, rfl⟩
    rw [if_neg (by rw [hm]; simp)] at hg
    by_cases hle : x ≤ last
    · rw [if_pos hle] at hg
      have t2 : decide (x ≤ last) = true := by simpa using hle
      have HM := Lib.hid hm; have HG := Lib.hid hg; have HX := Lib.hid hx; have HD := Lib.hid hd
      clear hm hg hx hd
      go_wp2_with fail
      refine (member_any _ _).mono ?_
      rintro e w' ⟨rfl, rfl⟩
      rw [HM.out]
      go_wp2
      go_ret
      exact ⟨by rw [← HG.out]; rfl, rfl⟩
    · rw [if_neg hle] at hg
      have t2 : decide (x ≤ last) = false := by simpa using hle
      have HM := Lib.hid hm; have HG := Lib.hid hg; have HX := Lib.hid hx; have HD := Lib.hid hd
      clear hm hg hx hd
      go_wp2_with fail
      refine (member_any _ _).mono ?_
      rintro e w' ⟨rfl, rfl⟩
      rw [HM.out]
      go_wp2
      go_round
      case rel => exact ⟨k + 1, x, by omega, by go_num, rfl, HG⟩
      case measure => simp [intOf]; omega
set_option maxRecDepth 100000 in
set_option maxHeartbeats 4000000 in
theorem viewCheck_any {w0 w : World} {R : HProp} (n : Int) (v : Value) (l : List Int) (h : Own w0 R w) (hv : Reads w0 R v l) :
    Calls Tryd.prog 115 #[.agg #[.int .i64 n, v]] w fun e w' => e = .returned (errV (viewErr n l)) ∧ Own w0 R w' := by
  obtain ⟨ad, cap, hs, hlc, hcap⟩ := (hv _ h).shape
  subst hs
  have ho := h.alloc (.cells #[.int .i64 n, .slice ad l.length cap] 87)
  obtain ⟨b, hb⟩ : ∃ b, b = w.heap.size := ⟨_, rfl⟩
  obtain ⟨w1, hw1⟩ : ∃ w1, w1 = w.alloc (.cells #[.int .i64 n, .slice ad l.length cap] 87) := ⟨_, rfl⟩
  rw [← hb, ← hw1] at ho
  have hl1 : Ints w1 (.slice ad l.length cap) l := hv.more _ ho
  have c0 : w1.cell? ⟨b, 0, none⟩ = some (.int .i64 n) := by rw [ho.cell]; rfl
  have c1 : w1.cell? ⟨b, 1, none⟩ = some (.slice ad l.length cap) := by rw [ho.cell]; rfl
  have H := Lib.hid h; have HV := Lib.hid hv; have HL1 := Lib.hid hl1; have HO := Lib.hid ho
  clear h hv hl1 ho
  go_enter Tryd.func115, Tryd.ntmps115
  go_upto_region 1 with fail
  rw [← hb, ← hw1]
  clear hb hw1
  cases hc : isCount n
  · have he : viewErr n l = 1 := by unfold viewErr; rw [if_pos hc]
    have HC := Lib.hid hc; have HE := Lib.hid he
    clear hc he
    go_wp2_with fail
    refine (count_any _ _).mono ?_
    rintro e w' ⟨rfl, rfl⟩
    rw [HC.out]
    go_wp2
    go_ret
    exact ⟨by rw [HE.out]; rfl, HO.out.drop⟩
  · have he : viewErr n l = memErr l := by unfold viewErr; rw [if_neg (by rw [hc]; simp)]
    have HC := Lib.hid hc; have HE := Lib.hid he
    clear hc he
    go_wp2_with fail
    refine (count_any _ _).mono ?_
    rintro e w' ⟨rfl, rfl⟩
    rw [HC.out]
    go_wp2_with fail
    refine (members_any _ l _ HL1.out).mono ?_
    rintro e w' ⟨rfl, rfl⟩
    go_wp2
    go_ret
    exact ⟨by rw [HE.out]; rfl, HO.out.drop⟩
end Go.Proofs.YtpgonkecicmanaaDoor
