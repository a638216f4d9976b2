/- Contracts of package agree, continued: Settle. -/
import Derived.Test.YtiipldlggjjlnaaMTopTotal14
import Derived.Test.YtiipldlggjjlnaaMTopTotal11
namespace Go.Proofs.Ytiipldlggjjlnaa
set_option linter.unusedVariables false
set_option linter.unusedSimpArgs false
open Go.RowKit Go.Maps
section
variable {w0 w : World} {p rb off cap gb wb : Nat} {rs : List AgR} {gs : List GRow} {ws : List WRow} {g : Ag} {R : HProp}
theorem st_get : ∀ (l : List St) (i j : Nat) (hi : i < l.length), j < 2 → (l.flatMap stCells)[i * 2 + j]? = (stCells l[i])[j]?
  | x :: r, 0, j, _, hj => by
    rw [List.flatMap_cons, Nat.zero_mul, Nat.zero_add, List.getElem?_append_left (by simp [stCells]; omega)]; rfl
  | x :: r, i + 1, j, hi, hj => by
    have ih := st_get r i j (by simpa using hi) hj
    rw [List.flatMap_cons, List.getElem?_append_right (by simp [stCells]; omega), show (i + 1) * 2 + j - (stCells x).length = i * 2 + j by simp [stCells]; omega, ih]
    simp
/-- A word's stamps where they lie, in every world that owns the group. -/
theorem Own.ag_gvat (h : Own w0 (AgO p rb off cap gb wb rs gs ws * R) w) (x : Int) (l : List St) (hl : ((mget gs x).getD nilSt).2 = l) (h0 : 0 < l.length) :
    ∃ sb so vc, ((mget gs x).getD nilSt).1 = .slice (some ⟨sb, so, none⟩) l.length vc ∧ l.length ≤ vc ∧ vc ≤ 9223372036854775807 ∧
      ∀ w' R', Own w0 (AgO p rb off cap gb wb rs gs ws * R') w' → ∀ (j : Nat) (hj : j < l.length), w'.cell? ⟨sb, so + j * 2, none⟩ = some (.int .i64 l[j].1) ∧ w'.cell? ⟨sb, so + j * 2 + 1, none⟩ = some (.int .i64 l[j].2) := by
  have h1 := h.ag_gvtake x
  unfold stP at h1
  rw [hl] at h1
  obtain ⟨sb, so, vc, hv, h2⟩ := h1.slAt (by rw [st_len]; omega)
  obtain ⟨h3, h4, _, _, _⟩ := h2.slAt_facts
  refine ⟨sb, so, vc, hv, h3, by unfold maxLen at h4; omega, fun w' R' h' j hj => ?_⟩
  have k1 := h'.ag_gvtake x
  unfold stP at k1
  rw [hl] at k1
  obtain ⟨sb', so', vc', hv', k2⟩ := k1.slAt (by rw [st_len]; omega)
  rw [hv] at hv'
  injection hv' with e1 e2 e3
  injection e1 with e1
  injection e1 with e4 e5
  subst e4 e5 e3
  obtain ⟨_, _, _, hc, _⟩ := k2.slAt_facts
  refine ⟨hc (j * 2) _ (st_get l j 0 hj (by omega)), ?_⟩
  rw [Nat.add_assoc]
  exact hc (j * 2 + 1) _ (st_get l j 1 hj (by omega))
theorem Own.agm_look {r : AgR} (h : Own w0 (agM r * R) w) (x : Int) (hx : I64 x) :
    (Instr.lookup 82 (.map (some r.mb2)) (.int .i64 x) false).run Try.prog w = .ok (.bool (decide (x ∈ r.m.knew))) w := by
  have h1 := h.agm_knew.map_look (int_ke int_kind) mapint_kind bool_zero hx false
  rw [mget_setM, if_neg (by decide)] at h1
  exact h1
theorem agm_know {mp mb1 mb2 : Nat} {hv : Value} {n : Int} {W : List (Int × Wt)} {K H : List Int} (x : Int)
    (h : Own w0 (IMp mb2 (mput (setM K) x (.bool true)) * (agBlk mp mb1 mb2 n hv * (IMp mb1 (mvals wtV W) * (IntSl hv H * R)))) w) : Own w0 (agM ⟨mp, mb1, mb2, hv, ⟨n, W, setPut K x, H⟩⟩ * R) w := by
  rw [mput_setPut] at h
  refine h.perm ?_
  unfold agM
  ac_rfl
end
/-- The stamps met so far. -/
def maxTo (l : List St) (j : Nat) : St := (l.take j).foldl stMax (l.headD (0, 0))
theorem maxTo_0 (l : List St) : maxTo l 0 = l.headD (0, 0) := rfl
theorem maxTo_all (l : List St) : maxTo l l.length = maxSt l := by unfold maxTo maxSt; rw [List.take_length]
theorem maxTo_step {l : List St} {j : Nat} (hj : j < l.length) : maxTo l (j + 1) = if stLess (maxTo l j) l[j] = true then l[j] else maxTo l j := by
  unfold maxTo
  rw [List.take_add_one, List.getElem?_eq_getElem hj, List.foldl_append]
  rfl
theorem agSetErr_chk {g : Ag} {who word : Int} (h : agChk g who word ≠ 0) : agSetErr g who word = agChk g who word := by unfold agSetErr; rw [if_pos h]
set_option maxRecDepth 100000 in
set_option maxHeartbeats 4000000 in
theorem agSettle_any {w0 w : World} {R : HProp} (p : Nat) (g : Ag) (who word : Int) (hI : AgI g) (h5 : g.mem.length ≤ 5) (h : Own w0 (AgP p g * R) w) :
    Calls Try.prog 18 #[.pointer (some ⟨p, 0, none⟩), .int .i64 who, .int .i64 word] w fun e w' => ∃ v', e = .returned (.tuple #[v', errV (agSetErr g who word)]) ∧ Own w0 (IntSl v' (agSetOut g who word) * (AgP p (agSet g who word) * R)) w' := by
  have hbad : agSetErr g who word ≠ 0 → ∀ w', Own w0 (AgP p g * R) w' → Own w0 (IntSl (.slice none 0 0) (agSetOut g who word) * (AgP p (agSet g who word) * R)) w' := fun he w' h' => by
    unfold agSetOut agSet
    rw [if_neg he, if_neg he]
    exact (h'.sl_nil 3 1).perm (by unfold IntSl; simp only [List.length_nil, List.map_nil])
  by_cases hc : agChk g who word = 0
  rotate_left
  · have hE := agSetErr_chk hc
    obtain ⟨mm, hmm⟩ := errV_some hc
    rw [hE, hmm]
    have HF := Lib.hid (hbad (by rw [hE]; exact hc) _ h)
    have HE := Lib.hid hE; have HC := Lib.hid hc; have HMM := Lib.hid hmm; have HI := Lib.hid hI; have HBAD := Lib.hid hbad; have H := Lib.hid h
    clear hE hc hmm hI hbad h
    go_enter Try.func18, Try.ntmps18
    go_wp2_with fail
    refine (agCheck_any p g who word H.out).mono ?_
    rintro e w' ⟨rfl, rfl⟩
    rw [HMM.out]
    go_wp2
    go_ret2
    exact ⟨_, rfl, HF.out⟩
  obtain ⟨⟨hw0, hwl⟩, hword, hsome⟩ := agChk0 hc
  have hwd := isWord_I64 hword
  obtain ⟨k, rfl⟩ : ∃ k : Nat, who = (k : Int) := ⟨who.toNat, by omega⟩
  have hkg : k < g.mem.length := by omega
  obtain ⟨rb, off, cap, gb, wb, rs, gs, ws, he, ho⟩ := h.ag_open
  obtain ⟨c0, c1, _, _, cm, hc1, hc2⟩ := ho.ag_facts
  unfold maxLen at hc2
  have hgl := agIs_len he
  have hkr : k < rs.length := by omega
  obtain ⟨l, hl⟩ : ∃ l, l = gvOf g word := ⟨_, rfl⟩
  have hgl2 : ((mget gs word).getD nilSt).2 = l := by rw [hl, agIs_gv he]
  have hlk := ho.drew.ag_gvlook word hwd false
  rw [if_neg (by simp)] at hlk
  obtain ⟨V, hV⟩ : ∃ V, V = ((mget gs word).getD nilSt).1 := ⟨_, rfl⟩
  obtain ⟨N, hN⟩ : ∃ N, N = rs.length := ⟨_, rfl⟩
  have hmk : g.mem[k] = rs[k].m := by
    have e : g.mem[k]? = some rs[k].m := by rw [← he.1, List.getElem?_map, List.getElem?_eq_getElem hkr]; rfl
    exact (List.getElem?_eq_some_iff.1 e).2
  have c5 := cm k rs[k] (by simp [hkr])
  have hk : k < N := by omega
  have iN : (k : Int) < (N : Int) := by omega
  obtain ⟨L, hL⟩ : ∃ L, L = l.length := ⟨_, rfl⟩
  have hl5 : L ≤ 5 := by rw [hL, hl]; have := hI.len word; omega
  rw [← hN] at c0 hc1
  obtain ⟨r, hr⟩ : ∃ r, r = rs[k] := ⟨_, rfl⟩
  rw [← hr] at c5
  obtain ⟨mp, mb1, mb2, hv, ⟨n, W, K, H⟩⟩ := r
  unfold agV at c5
  dsimp only at c5
  have hgk : agGet g (k : Int) = ⟨n, W, K, H⟩ := by rw [agGet_at hkg, hmk, ← hr]
  have hE1 : agSetErr g k word = if L < N then 6 else if word ∈ K then 7 else 0 := by
    unfold agSetErr
    rw [if_neg (by rw [hc]; simp), hgk, hL, hl, hN, hgl]
  obtain ⟨vad, vcp, hvs, _⟩ : ∃ ad cp, V = .slice ad L cp ∧ True := by
    have h1 := ho.ag_gvtake word
    unfold stP at h1
    rw [hgl2, ← hV, ← hL] at h1
    obtain ⟨ad, cp, e, _⟩ := Own.rd h1
    exact ⟨ad, cp, e, trivial⟩
  rw [← hV, hvs] at hlk
  have hw9 := h
  clear h
  by_cases hlt : L < N
  · rw [if_pos hlt] at hE1
    have tlt : decide ((L : Int) < (N : Int)) = true := decide_eq_true (by omega)
    have HF := Lib.hid (hbad (by rw [hE1]; simp))
    have HEQ := Lib.hid hE1
    have HW9 := Lib.hid hw9; have HO := Lib.hid ho; have HI := Lib.hid hI; have HBAD := Lib.hid hbad; have HC := Lib.hid hc; have HE := Lib.hid he; have HGL := Lib.hid hgl; have HL := Lib.hid hl; have HGL2 := Lib.hid hgl2; have HV := Lib.hid hV; have HN := Lib.hid hN; have HMK := Lib.hid hmk; have HL := Lib.hid hL; have HR := Lib.hid hr; have HGK := Lib.hid hgk; have HVS := Lib.hid hvs; have HWORD := Lib.hid hword; have HSOME := Lib.hid hsome; have CM := Lib.hid cm; have HE1 := Lib.hid hE1; have HWD := Lib.hid hwd
    clear hw9 ho hI hbad hc he hgl hl hgl2 hV hN hmk hL hr hgk hvs hword hsome cm hE1 hwd
    go_enter Try.func18, Try.ntmps18
    go_wp2_with fail
    refine (agCheck_any p g k word HW9.out).mono ?_
    rintro e w' ⟨rfl, rfl⟩
    rw [HC.out, errV0]
    go_upto_region 5 with fail
    refine wp_region_planH 13 [] [(true, 0), (true, 1), (true, 2), (true, 3), (true, 4), (true, 5), (true, 6), (true, 7), (true, 8), (true, 9), (true, 10), (true, 11), (true, 12)] [13] (fun wS => wS = w.drew) (by kernel_rfl) (by kernel_rfl) (rfl) ?_
    simp only [pickH, pick, List.getElem?_cons_succ, List.getElem?_cons_zero, Option.toList, Option.map_some, List.cons_append, List.nil_append]
    repeat (refine wpPure_step ?_ rfl ?_ ?_; rotate_left; (focus (intro _; first | with_reducible rfl | (go_simp; done) | (go_simp; with_reducible rfl) | rfl)); go_simp)
    refine wpPure_nil ?_
    repeat (refine wpMix_read ?_ rfl ?_ ?_; rotate_left; (focus (intro _ hS; obtain rfl := hS; first | with_reducible rfl | (go_simp; done) | (go_simp; with_reducible rfl) | rfl)); go_simp)
    refine wpMix_nil ?_
    go_wp2_with fail
    refine NoPanic.normal ?_
    go_wp2
    go_ret2
    refine ⟨_, by rw [HEQ.out]; rfl, HF.out _ ?_⟩
    exact HW9.out.drew
  rw [if_neg hlt] at hE1
  have tlt : decide ((L : Int) < (N : Int)) = false := decide_eq_false (by omega)
  have hL0 : 0 < l.length := by omega
  obtain ⟨sb, so, vc, hsv, hvc1, hvc2, hat⟩ := ho.ag_gvat word l hgl2 hL0
  rw [← hV, hvs, ← hL] at hsv
  injection hsv with e1 _ e3
  subst e1 e3
  obtain ⟨w1, hw1⟩ : ∃ x, x = w.drew := ⟨_, rfl⟩
  have ho1 : Own w0 (AgO p rb off cap gb wb rs gs ws * R) w1 := by rw [hw1]; exact ho.drew
  rw [← hw1] at hlk
  have ht := ho1.ag_take hkr
  rw [← hr] at ht
  obtain ⟨d0, d1, d2, _, df⟩ := ht.agm_facts
  have hkw := ht.agm_look word hwd
  obtain ⟨D, hD⟩ : ∃ D, D = decide (word ∈ K) := ⟨_, rfl⟩
  dsimp only at d0 d1 d2 hkw
  rw [← hD] at hkw
  have hlk0 := hlk
  rw [hw1] at hlk0
  cases D
  rotate_left
  · have hK : word ∈ K := of_decide_eq_true hD.symm
    rw [if_pos hK] at hE1
    have HF := Lib.hid (hbad (by rw [hE1]; simp))
    have HEQ := Lib.hid hE1
    have HAG : Hid (Own w0 (AgP p g * R) w1) := Lib.hid (Own.ag_close he ho1)
    clear hlk
    have HW9 := Lib.hid hw9; have HO := Lib.hid ho; have HI := Lib.hid hI; have HBAD := Lib.hid hbad; have HC := Lib.hid hc; have HE := Lib.hid he; have HGL := Lib.hid hgl; have HL := Lib.hid hl; have HGL2 := Lib.hid hgl2; have HV := Lib.hid hV; have HN := Lib.hid hN; have HMK := Lib.hid hmk; have HL := Lib.hid hL; have HR := Lib.hid hr; have HGK := Lib.hid hgk; have HVS := Lib.hid hvs; have HWORD := Lib.hid hword; have HSOME := Lib.hid hsome; have CM := Lib.hid cm; have HE1 := Lib.hid hE1; have HWD := Lib.hid hwd; have HAT := Lib.hid hat; have HO1 := Lib.hid ho1; have HT := Lib.hid ht; have DF := Lib.hid df; have HK := Lib.hid hK; have HD := Lib.hid hD
    clear hw9 ho hI hbad hc he hgl hl hgl2 hV hN hmk hL hr hgk hvs hword hsome cm hE1 hwd hat ho1 ht df hK hD
    go_enter Try.func18, Try.ntmps18
    go_wp2_with fail
    refine (agCheck_any p g k word HW9.out).mono ?_
    rintro e w' ⟨rfl, rfl⟩
    rw [HC.out, errV0]
    go_upto_region 5 with fail
    refine wp_region_planH 13 [] [(true, 0), (true, 1), (true, 2), (true, 3), (true, 4), (true, 5), (true, 6), (true, 7), (true, 8), (true, 9), (true, 10), (true, 11), (true, 12)] [13] (fun wS => wS = w.drew) (by kernel_rfl) (by kernel_rfl) (rfl) ?_
    simp only [pickH, pick, List.getElem?_cons_succ, List.getElem?_cons_zero, Option.toList, Option.map_some, List.cons_append, List.nil_append]
    repeat (refine wpPure_step ?_ rfl ?_ ?_; rotate_left; (focus (intro _; first | with_reducible rfl | (go_simp; done) | (go_simp; with_reducible rfl) | rfl)); go_simp)
    refine wpPure_nil ?_
    repeat (refine wpMix_read ?_ rfl ?_ ?_; rotate_left; (focus (intro _ hS; obtain rfl := hS; first | with_reducible rfl | (go_simp; done) | (go_simp; with_reducible rfl) | rfl)); go_simp)
    refine wpMix_nil ?_
    go_wp2_with fail
    refine NoPanic.normal ?_
    rw [← hw1]
    clear hw1 c0 c1 c5 hlk0
    go_wp2
    go_ret2
    exact ⟨_, by rw [HEQ.out]; rfl, HF.out _ HAG.out⟩
  have hK : word ∉ K := of_decide_eq_false hD.symm
  rw [if_neg hK] at hE1
  obtain ⟨M, hM⟩ : ∃ M, M = maxSt l := ⟨_, rfl⟩
  have hSM : agSetM g ⟨n, W, K, H⟩ word = ⟨max n M.1, mput W word (M, true), setPut K word, H⟩ := by unfold agSetM; rw [hM, hl]
  have hT : agSetOut g k word = (agHear (mput W word (M, true)).length (mput W word (M, true))).2 := by unfold agSetOut; rw [if_pos hE1, hgk, hSM]
  have hS : agSet g k word = { g with mem := g.mem.set k (agHearM ⟨max n M.1, mput W word (M, true), setPut K word, H⟩) } := by unfold agSet; rw [if_pos hE1, hgk, hSM, Int.toNat_natCast]
  have hfull : (gvOf g word).length = g.mem.length := Nat.le_antisymm (hI.len word) (by rw [← hl, ← hL]; omega)
  have hGv := hI.gv (by omega)
  have hJ := (hI.mem k hkg).settle hGv hfull (hI.full hfull hkg) (by rw [hmk, ← hr]; exact hK)
  rw [hmk, ← hr] at hJ
  dsimp only at hJ
  have hJ : AgMJ (gvOf g) g.mem.length k ⟨max n M.1, mput W word (M, true), setPut K word, H⟩ := by rw [hM, hl]; exact hJ
  have hAP := hJ.apart hGv
  have hWW : ∀ kk y, mget (mput W word (M, true)) kk = some y → isWord kk = true := fun _ _ hx => hJ.word hGv hx
  have hln : H.length + (mput W word (M, true)).length ≤ 1000 := by
    have h1 : H.length ≤ 30 := distinct_le 30 _ hJ.nodup (fun x hx => by
      obtain ⟨s, hs, _⟩ := List.mem_map.1 ((hJ.has x).2 (.inr hx))
      have := gvOf_word hI hs
      simp [isWord] at this; omega)
    have h2 : ((mput W word (M, true)).map (·.1)).length ≤ 30 := distinct_le 30 _ hJ.keys (fun x hx => by
      obtain ⟨q, hq, rfl⟩ := List.mem_map.1 hx
      have h3 : mget (mput W word (M, true)) q.1 ≠ none := fun hc => mget_none.1 hc q hq rfl
      cases h4 : mget (mput W word (M, true)) q.1 with
      | none => exact absurd h4 h3
      | some y => have := hWW _ _ h4; simp [isWord] at this; omega)
    rw [List.length_map] at h2
    omega
  obtain ⟨s0, hs0⟩ : ∃ s, s = l[0] := ⟨_, rfl⟩
  obtain ⟨q0, q1⟩ := hat w1 R ho1 0 hL0
  rw [← hs0, Nat.zero_mul, Nat.add_zero] at q0 q1
  have hmx0 : maxTo l 0 = s0 := by
    rw [maxTo_0, hs0]
    cases l with
    | nil => exact absurd hL0 (by simp)
    | cons a b => rfl
  obtain ⟨l0, l1, _, _, _, _, _⟩ := ho1.ag_facts
  rw [← hN] at l0
  have iL : (0 : Int) < (L : Int) := by omega
  have ns := ho1
  obtain ⟨b2, hb_b2⟩ : ∃ zz_, zz_ = (w1).heap.size := ⟨_, rfl⟩
  obtain ⟨w2, hw_w2⟩ : ∃ zz_, zz_ = (w1).alloc (.cells #[.int .i64 s0.1, .int .i64 s0.2] 52 (0, 0)) := ⟨_, rfl⟩
  have h_HB2 := (ns).alloc (.cells #[.int .i64 s0.1, .int .i64 s0.2] 52 (0, 0))
  rw [← hb_b2, ← hw_w2] at h_HB2
  have HB2 := Lib.hid h_HB2
  clear h_HB2
  clear ns
  have HO2 : Hid (Own w0 (AgO p rb off cap gb wb rs gs ws * (StO b2 s0 * R)) w2) := Lib.hid (HB2.out.perm (by unfold StO; ac_rfl))
  obtain ⟨_, m1, _, _, _, _, _⟩ := HO2.out.ag_facts
  have hlk2 := HO2.out.ag_gvlook word hwd false
  rw [if_neg (by simp), ← hV, hvs] at hlk2
  clear HB2
  have hend : ∀ b w' v' hv', Own w0 (IntSl v' (agHear (mput W word (M, true)).length (mput W word (M, true))).2 * (agM ⟨mp, mb1, mb2, hv', agHearM ⟨max n M.1, mput W word (M, true), setPut K word, H⟩⟩ * (AgX p rb off cap gb wb rs gs ws k * (StO b M * R)))) w' → Own w0 (IntSl v' (agSetOut g k word) * (AgP p (agSet g k word) * R)) w' := fun b w' v' hv' h' => by
    have h1 := h'.perm (show _ = agM ⟨mp, mb1, mb2, hv', agHearM ⟨max n M.1, mput W word (M, true), setPut K word, H⟩⟩ * (AgX p rb off cap gb wb rs gs ws k * (IntSl v' (agHear (mput W word (M, true)).length (mput W word (M, true))).2 * (StO b M * R))) by ac_rfl)
    have h2 := Own.ag_give hkr (by show mp = _; rw [← hr]) h1
    rw [hT]
    have h3 := h2.ag_close (g := agSet g k word) (by
      rw [hS]
      refine ⟨?_, he.2.1, he.2.2⟩
      rw [List.map_set, he.1])
    exact (h3.perm (show _ = StO b M * (IntSl v' _ * (AgP p (agSet g k word) * R)) by ac_rfl)).drop
  have hEZ := hE1
  clear hE1
  have HW9 := Lib.hid hw9; have HO := Lib.hid ho; have HI := Lib.hid hI; have HBAD := Lib.hid hbad; have HC := Lib.hid hc; have HE := Lib.hid he; have HGL := Lib.hid hgl; have HL := Lib.hid hl; have HGL2 := Lib.hid hgl2; have HV := Lib.hid hV; have HN := Lib.hid hN; have HMK := Lib.hid hmk; have HL := Lib.hid hL; have HR := Lib.hid hr; have HGK := Lib.hid hgk; have HVS := Lib.hid hvs; have HWORD := Lib.hid hword; have HSOME := Lib.hid hsome; have CM := Lib.hid cm; have HEZ := Lib.hid hEZ; have HWD := Lib.hid hwd; have HAT := Lib.hid hat; have HO1 := Lib.hid ho1; have HT := Lib.hid ht; have DF := Lib.hid df; have HK := Lib.hid hK; have HD := Lib.hid hD; have HM := Lib.hid hM; have HSM := Lib.hid hSM; have HT := Lib.hid hT; have HS := Lib.hid hS; have HFULL := Lib.hid hfull; have HGV := Lib.hid hGv; have HJ := Lib.hid hJ; have HAP := Lib.hid hAP; have HWW := Lib.hid hWW; have HLN := Lib.hid hln; have HS0 := Lib.hid hs0; have HMX0 := Lib.hid hmx0; have HEND := Lib.hid hend
  clear hw9 ho hI hbad hc he hgl hl hgl2 hV hN hmk hL hr hgk hvs hword hsome cm hEZ hwd hat ho1 ht df hK hD hM hSM hT hS hfull hGv hJ hAP hWW hln hs0 hmx0 hend
  go_enter Try.func18, Try.ntmps18
  go_wp2_with fail
  refine (agCheck_any p g k word HW9.out).mono ?_
  rintro e w' ⟨rfl, rfl⟩
  rw [HC.out, errV0]
  go_upto_region 5 with fail
  refine wp_region_planH 13 [] [(true, 0), (true, 1), (true, 2), (true, 3), (true, 4), (true, 5), (true, 6), (true, 7), (true, 8), (true, 9), (true, 10), (true, 11), (true, 12)] [13] (fun wS => wS = w.drew) (by kernel_rfl) (by kernel_rfl) (rfl) ?_
  simp only [pickH, pick, List.getElem?_cons_succ, List.getElem?_cons_zero, Option.toList, Option.map_some, List.cons_append, List.nil_append]
  repeat (refine wpPure_step ?_ rfl ?_ ?_; rotate_left; (focus (intro _; first | with_reducible rfl | (go_simp; done) | (go_simp; with_reducible rfl) | rfl)); go_simp)
  refine wpPure_nil ?_
  repeat (refine wpMix_read ?_ rfl ?_ ?_; rotate_left; (focus (intro _ hS; obtain rfl := hS; first | with_reducible rfl | (go_simp; done) | (go_simp; with_reducible rfl) | rfl)); go_simp)
  refine wpMix_nil ?_
  go_wp2_with fail
  refine NoPanic.normal ?_
  rw [← hw1]
  clear hw1 c0 c1 c5 hlk0
  go_upto_region 10 with fail
  rw [← hb_b2, ← hw_w2]
  clear hb_b2 hw_w2
  clear q0 q1 l0 l1 hlk d0 d1 d2 hkw
  go_upto_block 1 with fail
  go_wp2_with fail
  go_loopw [65] (fun iv wr => ∃ j : Nat, j ≤ L ∧ iv = .int .i64 j ∧ Hid (Own w0 (AgO p rb off cap gb wb rs gs ws * (StO b2 (maxTo l j) * R)) wr)) (fun iv _ => L - (intOf iv).toNat)
  case atStart => exact ⟨0, Nat.zero_le _, rfl, by rw [HMX0.out]; exact HO2⟩
  case round =>
    clear HO2 m1 hlk2
    obtain ⟨j, hj, rfl, HJJ⟩ := hrel
    by_cases hlj : j < L
    rotate_left
    · have hjn : j = L := by omega
      subst hjn
      have HT4 : Hid (Own w0 (agM ⟨mp, mb1, mb2, hv, ⟨n, W, K, H⟩⟩ * (AgX p rb off cap gb wb rs gs ws k * (StO b2 M * R))) wr) := Lib.hid (by
        have h1 := HJJ.out
        rw [show maxTo l j = M by rw [HL.out, maxTo_all, HM.out]] at h1
        have h2 := h1.ag_take hkr
        rw [← HR.out] at h2
        exact h2)
      obtain ⟨d0, d1, d2, _, _⟩ := HT4.out.agm_facts
      dsimp only at d0 d1 d2
      clear HJJ
      go_upto_region 17 with (at_mapUpdate; refine wpList_put (v := .bool true) (x := word) (int_ke int_kind) mapint_kind HT4.out.agm_knew HWD.out rfl _ _ _ rfl rfl rfl rfl ?_; intro w5 ho5; have HT5 : Hid (Own w0 (agM ⟨mp, mb1, mb2, hv, ⟨n, W, setPut K word, H⟩⟩ * (AgX p rb off cap gb wb rs gs ws k * (StO b2 M * R))) w5) := Lib.hid (agm_know word ho5); clear ho5)
      clear d0 d1 d2 HT4
      obtain ⟨d0, _, _, _, df⟩ := HT5.out.agm_facts
      have df0 := df 0 none
      dsimp only at d0 df0
      obtain ⟨s0, s1, _⟩ := HT5.out.third.sto
      clear df
      have hfz : ∀ z : Int, z = max n M.1 → Own w0 (agM ⟨mp, mb1, mb2, hv, ⟨max n M.1, W, setPut K word, H⟩⟩ * (AgX p rb off cap gb wb rs gs ws k * (StO b2 M * R))) ((w5.setCell ⟨mp, 0, none⟩ (.int .i64 z)).drew) := by rintro z rfl; exact (agm_n (max n M.1) HT5.out).drew
      have HFZ := Lib.hid hfz
      clear hfz
      refine wp_region_planH 10 [] [(true, 0), (true, 1), (true, 2), (true, 3), (true, 4), (true, 5), (true, 6), (false, 7), (true, 8), (true, 9)] [10] (fun wS => wS = w5.drew) (by kernel_rfl) (by kernel_rfl) (rfl) ?_
      simp only [pickH, pick, List.getElem?_cons_succ, List.getElem?_cons_zero, Option.toList, Option.map_some, List.cons_append, List.nil_append]
      repeat (refine wpPure_step ?_ rfl ?_ ?_; rotate_left; (focus (intro _; first | with_reducible rfl | (go_simp; done) | (go_simp; with_reducible rfl) | rfl)); go_simp)
      refine wpPure_nil ?_
      repeat (refine wpMix_read ?_ rfl ?_ ?_; rotate_left; (focus (intro _ hS; obtain rfl := hS; first | with_reducible rfl | (go_simp; done) | (go_simp; with_reducible rfl) | rfl)); go_simp)
      refine wpMix_write (fun K hK => ?_)
      go_simp
      refine hK _ _ ⟨rfl, ?_⟩
      clear hK K
      go_simp
      repeat (refine wpMix_read ?_ rfl ?_ ?_; rotate_left; (focus (intro _ hS; obtain rfl := hS; first | with_reducible rfl | (go_simp; done) | (go_simp; with_reducible rfl) | rfl)); go_simp)
      refine wpMix_nil ?_
      go_wp2_with fail
      · have ho6 := HFZ.out M.1 (by rw [Int.max_def]; split <;> omega)
        obtain ⟨w6, hw6⟩ : ∃ x, x = (w5.setCell ⟨mp, 0, none⟩ (.int .i64 M.1)).drew := ⟨_, rfl⟩
        rw [← hw6] at ho6
        refine NoPanic.normal ?_
        rw [← hw6]
        have HT6 := Lib.hid ho6
        clear ho6 hw6 d0 df0 s0 s1 h HFZ HT5
        obtain ⟨_, d1, _, _, _⟩ := HT6.out.agm_facts
        dsimp only at d1
        obtain ⟨s0, s1, _⟩ := HT6.out.third.sto
        go_upto_region 18 with fail
        refine wp_region_planH 7 [] [(true, 0), (true, 1), (true, 2), (true, 3), (true, 4), (true, 5), (true, 6)] [7] (fun wS => wS = w6.drew) (by kernel_rfl) (by kernel_rfl) (rfl) ?_
        simp only [pickH, pick, List.getElem?_cons_succ, List.getElem?_cons_zero, Option.toList, Option.map_some, List.cons_append, List.nil_append]
        repeat (refine wpPure_step ?_ rfl ?_ ?_; rotate_left; (focus (intro _; first | with_reducible rfl | (go_simp; done) | (go_simp; with_reducible rfl) | rfl)); go_simp)
        refine wpPure_nil ?_
        repeat (refine wpMix_read ?_ rfl ?_ ?_; rotate_left; (focus (intro _ hS; obtain rfl := hS; first | with_reducible rfl | (go_simp; done) | (go_simp; with_reducible rfl) | rfl)); go_simp)
        refine wpMix_nil ?_
        clear d1 s0 s1
        go_wp2_with (at_mapUpdate; refine wpList_put (v := wtV (M, true)) (x := word) (int_ke int_kind) mapwt_kind HT6.out.drew.agm_waits HWD.out rfl _ _ _ rfl rfl rfl rfl ?_; intro w7 ho7; have HT7 : Hid (Own w0 (agM ⟨mp, mb1, mb2, hv, ⟨max n M.1, mput W word (M, true), setPut K word, H⟩⟩ * (AgX p rb off cap gb wb rs gs ws k * (StO b2 M * R))) w7) := Lib.hid (agm_put word (M, true) ho7); clear ho7)
        refine NoPanic.normal ?_
        clear HT6
        go_wp2_with fail
        refine (agHear_any ⟨mp, mb1, mb2, hv, ⟨max n M.1, mput W word (M, true), setPut K word, H⟩⟩ HWW.out HAP.out HLN.out HT7.out).mono ?_
        rintro e w8 ⟨v', hv', rfl, ho8⟩
        have HEN := Lib.hid (HEND.out _ _ _ _ ho8)
        clear ho8
        go_wp2
        go_ret2
        exact ⟨v', by rw [HEZ.out]; rfl, HEN.out⟩
      · have ho6 := HFZ.out n (by rw [Int.max_def]; split <;> omega)
        obtain ⟨w6, hw6⟩ : ∃ x, x = (w5.setCell ⟨mp, 0, none⟩ (.int .i64 n)).drew := ⟨_, rfl⟩
        rw [← hw6] at ho6
        refine NoPanic.normal ?_
        rw [← hw6]
        have HT6 := Lib.hid ho6
        clear ho6 hw6 d0 df0 s0 s1 h HFZ HT5
        obtain ⟨_, d1, _, _, _⟩ := HT6.out.agm_facts
        dsimp only at d1
        obtain ⟨s0, s1, _⟩ := HT6.out.third.sto
        go_upto_region 18 with fail
        refine wp_region_planH 7 [] [(true, 0), (true, 1), (true, 2), (true, 3), (true, 4), (true, 5), (true, 6)] [7] (fun wS => wS = w6.drew) (by kernel_rfl) (by kernel_rfl) (rfl) ?_
        simp only [pickH, pick, List.getElem?_cons_succ, List.getElem?_cons_zero, Option.toList, Option.map_some, List.cons_append, List.nil_append]
        repeat (refine wpPure_step ?_ rfl ?_ ?_; rotate_left; (focus (intro _; first | with_reducible rfl | (go_simp; done) | (go_simp; with_reducible rfl) | rfl)); go_simp)
        refine wpPure_nil ?_
        repeat (refine wpMix_read ?_ rfl ?_ ?_; rotate_left; (focus (intro _ hS; obtain rfl := hS; first | with_reducible rfl | (go_simp; done) | (go_simp; with_reducible rfl) | rfl)); go_simp)
        refine wpMix_nil ?_
        clear d1 s0 s1
        go_wp2_with (at_mapUpdate; refine wpList_put (v := wtV (M, true)) (x := word) (int_ke int_kind) mapwt_kind HT6.out.drew.agm_waits HWD.out rfl _ _ _ rfl rfl rfl rfl ?_; intro w7 ho7; have HT7 : Hid (Own w0 (agM ⟨mp, mb1, mb2, hv, ⟨max n M.1, mput W word (M, true), setPut K word, H⟩⟩ * (AgX p rb off cap gb wb rs gs ws k * (StO b2 M * R))) w7) := Lib.hid (agm_put word (M, true) ho7); clear ho7)
        refine NoPanic.normal ?_
        clear HT6
        go_wp2_with fail
        refine (agHear_any ⟨mp, mb1, mb2, hv, ⟨max n M.1, mput W word (M, true), setPut K word, H⟩⟩ HWW.out HAP.out HLN.out HT7.out).mono ?_
        rintro e w8 ⟨v', hv', rfl, ho8⟩
        have HEN := Lib.hid (HEND.out _ _ _ _ ho8)
        clear ho8
        go_wp2
        go_ret2
        exact ⟨v', by rw [HEZ.out]; rfl, HEN.out⟩
    have hjl : j < l.length := by rw [← HL.out]; exact hlj
    obtain ⟨x, hx⟩ : ∃ x, x = l[j] := ⟨_, rfl⟩
    obtain ⟨y, hy⟩ : ∃ y, y = maxTo l j := ⟨_, rfl⟩
    have hst := maxTo_step hjl
    rw [← hx, ← hy] at hst
    rw [← hy] at HJJ
    obtain ⟨q0, q1⟩ := HAT.out _ _ HJJ.out j hjl
    rw [← hx] at q0 q1
    have ijl : (j : Int) < (L : Int) := by omega
    have ns := HJJ.out
    obtain ⟨b3, hb_b3⟩ : ∃ zz_, zz_ = (wr).heap.size := ⟨_, rfl⟩
    obtain ⟨w3, hw_w3⟩ : ∃ zz_, zz_ = (wr).alloc (.cells #[.int .i64 x.1, .int .i64 x.2] 52 (0, 0)) := ⟨_, rfl⟩
    have h_HB3 := (ns).alloc (.cells #[.int .i64 x.1, .int .i64 x.2] 52 (0, 0))
    rw [← hb_b3, ← hw_w3] at h_HB3
    have HB3 := Lib.hid h_HB3
    clear h_HB3
    clear ns
    have HO3 : Hid (Own w0 (StO b2 y * (StO b3 x * (AgO p rb off cap gb wb rs gs ws * R))) w3) := Lib.hid (HB3.out.perm (by unfold StO; ac_rfl))
    clear HB3 HJJ
    obtain ⟨y0, y1, _⟩ := HO3.out.sto
    obtain ⟨x0, x1, _⟩ := HO3.out.second.sto
    have HX := Lib.hid hx; have HY := Lib.hid hy; have HST := Lib.hid hst
    clear hx hy hst
    go_upto_region 13 with fail
    rw [← hb_b3, ← hw_w3]
    clear hb_b3 hw_w3
    clear q0 q1
    go_wp2_with fail
    refine (less_any y x HO3.out).mono ?_
    rintro e w4 ⟨rfl, ho4⟩
    clear x0 x1 y0 y1 HO3
    obtain ⟨B, hB⟩ : ∃ B, B = stLess y x := ⟨_, rfl⟩
    have hst2 := HST.out
    rw [← hB] at hst2 ⊢
    cases B
    · rw [if_neg (by simp)] at hst2
      have HO5 : Hid (Own w0 (AgO p rb off cap gb wb rs gs ws * (StO b2 (maxTo l (j + 1)) * R)) w4) := Lib.hid (by rw [hst2]; exact (ho4.perm (show _ = StO b3 x * (AgO p rb off cap gb wb rs gs ws * (StO b2 y * R)) by ac_rfl)).drop)
      clear ho4
      have HB := Lib.hid hB; have HST2 := Lib.hid hst2
      clear hB hst2
      go_wp2
      go_roundw
      case rel => exact ⟨j + 1, by omega, by go_num, HO5⟩
      case measure => simp [intOf]; omega
    · rw [if_pos rfl] at hst2
      obtain ⟨x0, x1, _⟩ := ho4.second.sto
      obtain ⟨_, _, yf⟩ := ho4.sto
      have yf0 := yf 0 none
      have yf1 := yf 1 none
      have hpt := ho4.sto_put x
      have HO5 : Hid (Own w0 (AgO p rb off cap gb wb rs gs ws * (StO b2 (maxTo l (j + 1)) * R)) ((w4.setCell ⟨b2, 0, none⟩ (.int .i64 x.1)).setCell ⟨b2, 1, none⟩ (.int .i64 x.2))) := Lib.hid (by rw [hst2]; exact (hpt.perm (show _ = StO b3 x * (AgO p rb off cap gb wb rs gs ws * (StO b2 x * R)) by ac_rfl)).drop)
      clear ho4 yf hpt
      have HB := Lib.hid hB; have HST2 := Lib.hid hst2
      clear hB hst2
      go_wp2
      go_roundw
      case rel => exact ⟨j + 1, by omega, by go_num, HO5⟩
      case measure => simp [intOf]; omega
end Go.Proofs.Ytiipldlggjjlnaa
/- AgreeTwo: where it ends early. -/
namespace Go.Proofs.Ytiipldlggjjlnaa
set_option linter.unusedVariables false
set_option linter.unusedSimpArgs false
open Go.RowKit Go.Maps
def AgLe (g : Ag) (B : Int) : Prop := ∀ k : Nat, k < g.mem.length → (agGet g k).n ≤ B
theorem AgLe.sm {g : Ag} {B : Int} (h : AgLe g B) (hI : AgI g) (hB : B ≤ 1000000) : AgSm g := fun k hk => ⟨by rw [agGet_at hk]; exact (hI.mem k hk).pos, Int.le_trans (h k hk) hB⟩
theorem AgLe.prop {g : Ag} {B : Int} (h : AgLe g B) (who w : Int) : AgLe (agProp g who w) (B + 1) := by
  intro k hk
  rw [agProp_len] at hk
  have hk0 := h k hk
  by_cases he : agPropErr g who w = 0
  rotate_left
  · have e : agProp g who w = g := by unfold agProp; rw [if_neg he]
    rw [e]; omega
  have hc : agChk g who w = 0 := by
    by_cases hc : agChk g who w = 0
    · exact hc
    · unfold agPropErr at he; rw [if_pos hc] at he; exact he
  obtain ⟨⟨h0, h1⟩, _, _⟩ := agChk0 hc
  obtain ⟨j, rfl⟩ : ∃ j : Nat, who = (j : Int) := ⟨who.toNat, by omega⟩
  obtain ⟨m, hm, hmn⟩ : ∃ m, (agProp g j w).mem = g.mem.set j m ∧ m.n = (agGet g j).n + 1 := by
    unfold agProp
    rw [if_pos he, Int.toNat_natCast]
    exact ⟨_, rfl, rfl⟩
  have hkk : k < (agProp g j w).mem.length := by rw [agProp_len]; exact hk
  rw [agGet_at hkk]
  have e2 : (agProp g j w).mem[k]? = (g.mem.set j m)[k]? := by rw [hm]
  rw [List.getElem?_eq_getElem hkk, List.getElem?_set] at e2
  by_cases e : j = k
  · subst e
    rw [if_pos rfl, if_pos hk] at e2
    rw [Option.some.inj e2, hmn]
    omega
  · rw [if_neg e, List.getElem?_eq_getElem hk] at e2
    rw [Option.some.inj e2, ← agGet_at hk]
    omega
theorem AgLe.new (n : Nat) (a b : Int) : AgLe (agSay (agSay (agNew n) a) b) 0 := by
  intro k hk
  unfold agGet
  rw [agSay_mem, agSay_mem]
  unfold agNew
  dsimp only
  rw [List.getD_eq_getElem?_getD, Int.toNat_natCast]
  rw [agSay_mem, agSay_mem] at hk
  have hk' : k < (List.replicate n (⟨0, [], [], []⟩ : AgM)).length := hk
  rw [List.getElem?_eq_getElem hk']
  simp
theorem errA1 : errV 1 = .iface 68 (.int .i64 1) := rfl
theorem errA7 : errV 7 = .iface 68 (.int .i64 7) := rfl
theorem wordNo {x : Int} (h : isWord x = false) : x < 1 ∨ (¬ x < 1 ∧ 30 < x) := by simp [isWord] at h; omega
theorem wordYes {x : Int} (h : isWord x = true) : ¬ x < 1 ∧ ¬ 30 < x := by simp [isWord] at h; omega
theorem AgN.fit {n : Nat} {g : Ag} (h : AgN n g) : ∀ k : Nat, k < g.mem.length → (agGet g k).heard.length ≤ 1000 ∧ ∀ x ∈ (agGet g k).heard, I64 x := fun k hk => by
  rw [h.len] at hk
  obtain ⟨h1, h2⟩ := h.heard_small hk
  exact ⟨by omega, fun x hx => isWord_I64 (h2 x hx)⟩
theorem agHeard_at {n : Nat} {g : Ag} (h : AgN n g) {k : Nat} (hk : k < n) : agHeardErr g k = 0 ∧ agHeard g k = (agGet g k).heard := by
  have e : inR (k : Int) g.mem.length = true := by unfold inR; rw [h.len]; simp; omega
  unfold agHeardErr agHeard
  rw [e]
  exact ⟨rfl, rfl⟩
end Go.Proofs.Ytiipldlggjjlnaa
/- TopTotal, plainly: of words that get their numbers one behind the other all hear all, as they were said. -/
namespace Go.Proofs.Ytiipldlggjjlnaa
set_option linter.unusedVariables false
set_option linter.unusedSimpArgs false
open Go.RowKit Go.Maps
def ttSt (j : Nat) : List St := [((j : Int) + 1, 0), ((j : Int) + 1, 1), ((j : Int) + 1, 2)]
structure TtN (all : List Int) (g : Ag) : Prop where
  ag : AgN 3 g
  nd : all.Nodup
  word : ∀ w ∈ all, isWord w = true
  gv : ∀ j (h : j < all.length), gvOf g all[j] = ttSt j
structure TtA (all : List Int) (g : Ag) : Prop extends TtN all g where
  said : ∀ v, agSaid g v = decide (v ∈ all)
  n : ∀ k : Nat, k < 3 → (agGet g k).n = (all.length : Int)
  knew : ∀ k : Nat, agKnew g k = []
structure TtM (all : List Int) (w : Int) (m : Nat) (g : Ag) : Prop extends TtN all g where
  nw : w ∉ all
  ww : isWord w = true
  said : ∀ v, agSaid g v = decide (v ∈ all ++ [w])
  now : gvOf g w = (ttSt all.length).take m
  n : ∀ k : Nat, k < 3 → (agGet g k).n = if k < m then (all.length : Int) + 1 else all.length
  knew : ∀ k : Nat, agKnew g k = []
theorem TtA.new : TtA [] (agNew 3) where
  ag := AgN.new 3
  nd := List.nodup_nil
  word := fun w h => by cases h
  gv := fun j h => by cases h
  said := fun v => rfl
  n := fun k hk => by
    have : k = 0 ∨ k = 1 ∨ k = 2 := by omega
    rcases this with rfl | rfl | rfl <;> rfl
  knew := fun k => by
    unfold agKnew agGet agNew
    dsimp only
    rw [List.getD_eq_getElem?_getD, Int.toNat_natCast, List.getElem?_replicate]
    split <;> rfl
theorem agSayErr0 {g : Ag} {w : Int} (h : agSayErr g w = 0) : isWord w = true ∧ agSaid g w = false := by
  unfold agSayErr at h
  cases h1 : isWord w
  · rw [if_pos h1] at h; cases h
  rw [if_neg (by rw [h1]; simp)] at h
  cases h2 : agSaid g w
  · exact ⟨rfl, rfl⟩
  · rw [if_pos (show (mget g.given w).isSome = true from h2)] at h; cases h
theorem TtA.say {all : List Int} {g : Ag} (h : TtA all g) {w : Int} (he : agSayErr g w = 0) : TtM all w 0 (agSay g w) := by
  obtain ⟨h1, h2⟩ := agSayErr0 he
  have hw : w ∉ all := by rw [h.said] at h2; simpa using h2
  refine ⟨⟨h.ag.say w, h.nd, h.word, fun j hj => by rw [agSay_gv]; exact h.gv j hj⟩, hw, h1, fun v => ?_, ?_, fun k hk => ?_, fun k => ?_⟩
  · rw [agSay_said he, h.said]
    by_cases e : v = w
    · subst e; simp
    · simp [e]
  · rw [agSay_gv]
    unfold agSaid at h2
    unfold gvOf
    cases hm : mget g.given w with
    | none => rfl
    | some l => rw [hm] at h2; cases h2
  · unfold agGet
    rw [agSay_mem, if_neg (by omega)]
    exact h.n k hk
  · unfold agKnew agGet
    rw [agSay_mem]
    exact h.knew k
theorem TtM.step {all : List Int} {w : Int} {m : Nat} {g : Ag} (h : TtM all w m g) (hm : m < 3) : agPropErr g m w = 0 ∧ TtM all w (m + 1) (agProp g m w) := by
  have hml : m < g.mem.length := by rw [h.ag.len]; exact hm
  have he : agPropErr g m w = 0 := by
    rw [agProp_may hml h.ww (by rw [h.said]; simp), if_neg]
    rw [h.ag.inv.whos, h.now]
    have : m = 0 ∨ m = 1 ∨ m = 2 := by omega
    rcases this with rfl | rfl | rfl <;> simp [ttSt]
  have hn := h.n m hm
  rw [if_neg (by omega)] at hn
  refine ⟨he, ⟨h.ag.prop _ _, h.nd, h.word, fun j hj => ?_⟩, h.nw, h.ww, fun v => by rw [agProp_said]; exact h.said v, ?_, fun k hk => ?_, fun k => by rw [agProp_knew _ _ _ _ (by omega)]; exact h.knew k⟩
  · rw [agProp_gv he, if_neg (fun e => h.nw (by rw [e]; exact List.getElem_mem hj))]
    exact h.gv j hj
  · rw [agProp_gv he, if_pos rfl, h.now, hn]
    have : m = 0 ∨ m = 1 ∨ m = 2 := by omega
    rcases this with rfl | rfl | rfl <;> rfl
  · have e1 : agGet (agProp g m w) k = if (k : Int) = (m : Int) then (⟨(agGet g m).n + 1, mput (agGet g m).waits w (((agGet g m).n + 1, (m : Int)), false), (agGet g m).knew, (agGet g m).heard⟩ : AgM) else agGet g k := by
      have h9 : (agProp g m w).mem = g.mem.set m ⟨(agGet g m).n + 1, mput (agGet g m).waits w (((agGet g m).n + 1, (m : Int)), false), (agGet g m).knew, (agGet g m).heard⟩ := by
        unfold agProp; rw [if_pos he]; rfl
      exact agGet_set hml h9 (by omega)
    rw [e1]
    by_cases e : k = m
    · subst e
      rw [if_pos rfl, if_pos (by omega)]
      show (agGet g k).n + 1 = _
      rw [hn]
    · rw [if_neg (by omega), h.n k hk]
      by_cases e2 : k < m
      · rw [if_pos e2, if_pos (by omega)]
      · rw [if_neg e2, if_neg (by omega)]
theorem TtM.done {all : List Int} {w : Int} {g : Ag} (h : TtM all w 3 g) : TtA (all ++ [w]) g := by
  refine ⟨⟨h.ag, ?_, ?_, fun j hj => ?_⟩, h.said, fun k hk => ?_, h.knew⟩
  · rw [List.nodup_append]
    exact ⟨h.nd, by simp, fun a ha b hb e => by simp at hb; subst hb; exact h.nw (e ▸ ha)⟩
  · intro x hx
    rcases List.mem_append.1 hx with hx | hx
    · exact h.word x hx
    · simp at hx; rw [hx]; exact h.ww
  · by_cases hl : j < all.length
    · rw [List.getElem_append_left hl]; exact h.gv j hl
    · have : j = all.length := by simp at hj; omega
      subst this
      rw [List.getElem_append_right (Nat.le_refl _)]
      simp only [Nat.sub_self, List.getElem_singleton]
      exact h.now
  · rw [h.n k hk, if_pos hk]
    simp
structure TtS (all : List Int) (m i : Nat) (g : Ag) : Prop extends TtN all g where
  said : ∀ v, agSaid g v = decide (v ∈ all)
  knew : ∀ (k : Nat) j (h : j < all.length), k < 3 → (all[j] ∈ agKnew g k ↔ (k < m ∨ (k = m ∧ i ≤ j)))
theorem TtA.start {all : List Int} {g : Ag} (h : TtA all g) : TtS all 0 all.length g := ⟨h.toTtN, h.said, fun k j hj hk => by
  rw [h.knew k]
  constructor
  · intro hc; cases hc
  · rintro (hc | ⟨_, hc⟩) <;> omega⟩
theorem TtS.next {all : List Int} {m : Nat} {g : Ag} (h : TtS all m 0 g) : TtS all (m + 1) all.length g := ⟨h.toTtN, h.said, fun k j hj hk => by
  rw [h.knew k j hj hk]; omega⟩
theorem TtS.step {all : List Int} {m i : Nat} {g : Ag} (h : TtS all m (i + 1) g) (hm : m < 3) (hi : i < all.length) : agSetErr g m all[i] = 0 ∧ TtS all m i (agSet g m all[i]) := by
  have hml : m < g.mem.length := by rw [h.ag.len]; exact hm
  have hw := h.word _ (List.getElem_mem hi)
  have hs : agSaid g all[i] = true := by rw [h.said]; simp
  have he : agSetErr g m all[i] = 0 := by
    rw [agSet_may hml hw hs (by rw [h.gv i hi, h.ag.len]; rfl), if_neg]
    rw [h.knew m i hi hm]
    omega
  refine ⟨he, ⟨h.ag.set _ _, h.nd, h.word, fun j hj => by rw [agSet_gv]; exact h.gv j hj⟩, fun v => by rw [agSet_said]; exact h.said v, fun k j hj hk => ?_⟩
  rw [agSet_knew he (by omega)]
  by_cases e : k = m
  · subst e
    rw [if_pos rfl, mem_setPut, h.knew k j hj hk]
    constructor
    · rintro (hc | hc)
      · omega
      · have : j = i := by
          have hn := h.nd
          rw [List.nodup_iff_pairwise_ne, List.pairwise_iff_getElem] at hn
          rcases Nat.lt_trichotomy j i with h1 | h1 | h1
          · exact absurd hc (hn j i hj hi h1)
          · exact h1
          · exact absurd hc.symm (hn i j hi hj h1)
        omega
    · rintro (hc | ⟨_, hc⟩)
      · omega
      · by_cases e2 : j = i
        · subst e2; exact .inr rfl
        · exact .inl (.inr ⟨rfl, by omega⟩)
  · rw [if_neg (by omega), h.knew k j hj hk]
    omega
theorem maxSt_tt (j : Nat) : maxSt (ttSt j) = ((j : Int) + 1, 2) := by
  unfold maxSt ttSt stMax stLess
  simp
theorem TtS.heard {all : List Int} {i : Nat} {g : Ag} (h : TtS all 3 i g) {k : Nat} (hk : k < 3) : (agGet g k).heard = all := by
  have hk' : k < g.mem.length := by rw [h.ag.len]; exact hk
  have hM := h.ag.inv.mem k hk'
  have hall := h.ag.inv.heard_all hk' (fun w hw => by
    have hS : w ∈ all := by
      have h9 : agSaid g w = true := hw
      rw [h.said w] at h9
      simpa using h9
    obtain ⟨j, hj, rfl⟩ := List.mem_iff_getElem.1 hS
    refine ⟨by rw [h.ag.len, h.gv j hj]; rfl, ?_⟩
    have := (h.knew k j hj hk).2 (.inl hk)
    unfold agKnew at this
    rw [agGet_at hk'] at this
    exact this)
  rw [agGet_at hk']
  have hp : g.mem[k].heard.Perm all := (List.perm_ext_iff_of_nodup hM.nodup h.nd).2 fun w => by
    rw [hall w]
    show agSaid g w = true ↔ _
    rw [h.said w]
    simp
  have hs2 : all.Pairwise (fun a b => stLt (maxSt (gvOf g a)) (maxSt (gvOf g b))) := by
    rw [List.pairwise_iff_getElem]
    intro a b ha hb hab
    rw [h.gv a ha, h.gv b hb, maxSt_tt, maxSt_tt]
    unfold stLt
    left
    show (a : Int) + 1 < (b : Int) + 1
    omega
  refine hp.eq_of_pairwise (le := fun a b => stLt (maxSt (gvOf g a)) (maxSt (gvOf g b))) (fun a b _ _ h1 h2 => absurd (stLt_trans h1 h2) (stLt_irr _)) hM.sorted hs2
end Go.Proofs.Ytiipldlggjjlnaa
