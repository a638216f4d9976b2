/- AgainWhole: what is lost is asked for, and then all is heard in order. -/
import Derived.Test.YtclapdicocbnoaaAgainP
namespace Go.Proofs.Ytclapdicocbnoaa
set_option linter.unusedVariables false
set_option linter.unusedSimpArgs false
open Go.RowKit
def seAt (A : List Int) : Se := ⟨keptOf A, A.length⟩
theorem seAt_err (A : List Int) (x : Int) (hA : A.length < 30) : seErr (seAt A) x = if isWord x then 0 else 1 := by
  unfold seErr seAt
  have : ¬ 40 ≤ (keptOf A).length := by simp [keptOf]; omega
  cases h : isWord x <;> simp [this]
theorem seAt_say (A : List Int) (x : Int) (hA : A.length < 30) (hx : isWord x = true) : seSay (seAt A) x = seAt (A ++ [x]) ∧ seGot (seAt A) x = (A.length : Int) + 1 := by
  have he : seErr (seAt A) x = 0 := by rw [seAt_err A x hA, hx]; rfl
  unfold seSay seGot
  rw [if_pos he, if_pos he]
  refine ⟨?_, rfl⟩
  unfold seAt
  have hno : mget (keptOf A) ((A.length : Int) + 1) = none := by rw [mget_keptOf, if_neg (by omega)]
  simp only
  rw [mput_new (mget_none.1 hno), keptOf_snoc, List.length_append]
  rfl
theorem aw_ask (A : List Int) (k : Nat) (h1 : 1 ≤ k) (h2 : k ≤ A.length) : seAskErr (seAt A) k = 0 ∧ seAsk (seAt A) k = A.getD (k - 1) 0 := by
  have hm : mget (keptOf A) (k : Int) = some (A.getD (k - 1) 0) := by
    rw [mget_keptOf, if_pos (by omega), show ((k : Int) - 1).toNat = k - 1 from by omega]
  have he : seAskErr (seAt A) k = 0 := by
    unfold seAskErr seAt
    simp only [hm]
    rw [if_neg (by omega), if_neg (by omega)]; rfl
  refine ⟨he, ?_⟩
  unfold seAsk
  rw [if_pos he]
  show (mget (keptOf A) _).getD 0 = _
  rw [hm]; rfl
theorem aw_free (A : List Int) (free : Int) (h : seFreeErr (seAt A) free = 0) (k : Nat) (h1 : 1 ≤ k) (h2 : k ≤ A.length) : seAskErr (seFree (seAt A) free) k = if free < (k : Int) then 0 else 5 := by
  have hm : mget (keptOf A) (k : Int) = some (A.getD (k - 1) 0) := by
    rw [mget_keptOf, if_pos (by omega), show ((k : Int) - 1).toNat = k - 1 from by omega]
  have hf := mget_filter (keptOf A) (fun n => decide (free < n)) (k : Int)
  unfold seFree
  rw [if_pos h]
  unfold seAskErr seAt
  simp only
  rw [if_neg (by omega), if_neg (by omega), hf]
  by_cases hk : free < (k : Int) <;> simp [hk, hm]
theorem aw_free_err (A : List Int) (free : Int) : seFreeErr (seAt A) free = if free < 0 then 1 else if (A.length : Int) < free then 1 else 0 := rfl
theorem aw_facts : seErr ⟨[], 0⟩ 9 = 0 ∧ seGot ⟨[], 0⟩ 9 = 1 ∧ seAskErr (seSay ⟨[], 0⟩ 9) 1 = 0 ∧ seAsk (seSay ⟨[], 0⟩ 9) 1 = 9 ∧ (seSay ⟨[], 0⟩ 9).said = 1 := by decide
theorem isWord_cases {x : Int} (h : isWord x = false) : x < 1 ∨ (¬ x < 1 ∧ 30 < x) := by simp [isWord] at h; omega
theorem aw_errV1 : errV 1 = .iface 31 (.int .i64 1) := rfl
theorem aw_errV5 : errV 5 = .iface 31 (.int .i64 5) := rfl
theorem star_rot3 (A B C D : HProp) : A * (B * (C * D)) = C * (A * (B * D)) := by ac_rfl
theorem aw_len {A out : List Int} {h c : Nat} (hA : A.length ≤ 30) (e : A.take h ++ out = A.take (h + c)) : (A.take h).length + out.length ≤ 30 := by
  have := congrArg List.length e
  rw [List.length_append, List.length_take, List.length_take] at this
  rw [List.length_take]
  omega
theorem aw_app {w0 w : World} {v vo : Value} {A out : List Int} {h c : Nat} {T R : HProp} (e : A.take h ++ out = A.take (h + c))
    (ho : Own w0 (Sl 3 1 v ((A.take h).length + out.length) ((A.take h).map (Value.int .i64) ++ out.map (Value.int .i64)) * (IntSl vo out * (T * R))) w) : Own w0 (IntSl v (A.take (h + c)) * (T * R)) w := by
  have h1 := (ho.perm (star_left_comm _ _ _)).drop
  rw [← List.length_append, ← List.map_append, e] at h1
  exact h1
theorem aw_all {A : List Int} {f f' : Fi} {h h' : Nat} (hi : FInv A f h) (hw : wordsOk A) (hi' : FInv A f' h') (hk : ∀ n, fiHas f 0 n = true → fiHas f' 0 n = true)
    (hx : ∀ z ∈ heLacks f (A.length : Int), fiHas f' 0 z = true) : h' = A.length :=
  he_all hi' fun j h1 h2 => by
    cases hf : fiHas f 0 (j : Int)
    · refine hx _ ((heLacks_mem hi hw _).2 ⟨?_, by omega, hf⟩)
      unfold fiHas at hf
      rw [hi.nx] at hf
      simp at hf
      omega
    · exact hk _ hf
set_option maxRecDepth 100000 in
set_option maxHeartbeats 4000000 in
theorem againWhole_law (w : World) (vw : Value) (words : List Int) (hvw : Ints w vw words) (vo : Value) (order : List Int) (hvo : Ints w vo order) (free : Int) (_hf : I64 free) :
    Calls Try.prog 13 #[vw, vo, .int .i64 free] w fun e w' => e = .returned (.bool true) ∧ Below w.heap.size w w' := by
  obtain ⟨wad, wcap, rfl, hwc1, hwc2⟩ := hvw.shape
  obtain ⟨oad, ocap, rfl, hoc1, hoc2⟩ := hvo.shape
  have F := Lib.hid aw_facts
  have HVW := Lib.hid hvw; have HVO := Lib.hid hvo
  clear hvw hvo
  go_enter Try.func13, Try.ntmps13
  go_wp2_with fail
  refine (seNew_any (Own.start _)).mono ?_
  rintro e w' ⟨q, rfl, ho⟩
  have HO0 := Lib.hid ho
  clear ho
  go_wp2_with fail
  refine (seSay_any q _ 9 (Nat.zero_le _) HO0.out).mono ?_
  rintro e wa ⟨rfl, ho⟩
  rw [F.out.1, F.out.2.1, errV0]
  have HO1 := Lib.hid ho
  clear ho
  go_wp2_with fail
  refine (seAsk_any q _ 1 (by rw [F.out.2.2.2.2]; omega) HO1.out).mono ?_
  rintro e wb ⟨rfl, rfl⟩
  rw [F.out.2.2.1, F.out.2.2.2.1, errV0]
  have HO2 := Lib.hid (HO1.out.drop)
  go_wp2_with fail
  refine (seNew_any HO2.out).mono ?_
  rintro e wb ⟨ps, rfl, ho⟩
  have HO3 := Lib.hid ho
  clear ho
  go_wp2_with fail
  refine (heNew_any HO3.out).mono ?_
  rintro e wc ⟨ph, rfl, ho⟩
  have HO := Lib.hid (ho.perm (star_left_comm _ _ _))
  clear ho
  go_wp2_with fail
  go_loopw [14, 16] (fun v i wr => ∃ (k : Nat) (A : List Int), k ≤ words.length ∧ k ≤ 30 ∧ i = .int .i64 k ∧ Hid (A.length = k ∧ wordsOk A) ∧ Hid (Own w (IntSl v A * (SeP ps (seAt A) * (HeP ph fiNew * emp))) wr)) (fun _ i _ => words.length - (intOf i).toNat)
  case atStart => exact ⟨0, [], Nat.zero_le _, Nat.zero_le _, rfl, ⟨rfl, Nat.zero_le _, by simp⟩, Lib.hid (HO.out.sl_nil _ _)⟩
  case round =>
    obtain ⟨k, A, hk, hk30, rfl, HA, HP⟩ := hrel
    obtain ⟨ad, cp, hv⟩ := HP.out.int_shape
    rw [HA.out.1] at hv
    subst hv
    by_cases hlt : k < words.length ∧ k < 30
    · obtain ⟨hlt, hlt30⟩ := hlt
      have hd30 : decide ((k : Int) < 30) = true := by simp; omega
      obtain ⟨aw, hawe, hcw⟩ := (HVW.out.later HP.out).at k hlt
      obtain ⟨x, hx⟩ : ∃ x, x = words[k] := ⟨_, rfl⟩
      rw [← hx] at hcw
      subst hawe
      have hp1 := HP.out.perm (star_left_comm _ _ _)
      have hAl : A.length < 30 := by rw [HA.out.1]; exact hlt30
      have hsaid : (seAt A).said ≤ 1000000 := by show A.length ≤ _; omega
      cases hwd : isWord x
      · have he : seErr (seAt A) x = 1 := by rw [seAt_err A x hAl, hwd]; rfl
        have hxc := isWord_cases hwd
        have HX := Lib.hid hx; have HP1 := Lib.hid hp1; have HAL := Lib.hid hAl; have HE := Lib.hid he; have HWD := Lib.hid hwd; have HSAID := Lib.hid hsaid
        clear hx hp1 hAl he hwd hsaid
        go_wp2_with fail
        refine (seSay_any ps (seAt A) x HSAID.out HP1.out).mono ?_
        rintro e w2 ⟨rfl, ho⟩
        rw [HE.out, aw_errV1]
        have hcw2 : w2.cell? (aw.add k) = some (.int .i64 x) := by
          obtain ⟨aw2, e2, hc⟩ := (HVW.out.later ho).at k hlt
          cases e2; rw [hc, HX.out]
        have hbel := ho.below
        clear ho hcw
        rcases hxc with hx1 | ⟨hx1, hx2⟩
        · go_wp2
          all_goals (go_ret; exact ⟨rfl, hbel⟩)
        · go_wp2
          all_goals (go_ret; exact ⟨rfl, hbel⟩)
      · have he : seErr (seAt A) x = 0 := by rw [seAt_err A x hAl, hwd]; rfl
        obtain ⟨hs, hg⟩ := seAt_say A x hAl hwd
        have hx30 : 1 ≤ x ∧ x ≤ 30 := by simpa [isWord] using hwd
        have ha2 : (A ++ [x]).length = k + 1 ∧ wordsOk (A ++ [x]) := ⟨by simp [HA.out.1], by
          refine ⟨by rw [List.length_append, List.length_singleton]; omega, fun y hy => ?_⟩
          rcases List.mem_append.1 hy with hy | hy
          · exact HA.out.2.2 y hy
          · simp at hy; subst hy; exact hx30⟩
        rw [HA.out.1] at hg
        have HX := Lib.hid hx; have HP1 := Lib.hid hp1; have HAL := Lib.hid hAl; have HE := Lib.hid he; have HWD := Lib.hid hwd; have HSAID := Lib.hid hsaid; have HS := Lib.hid hs; have HG := Lib.hid hg; have HA2 := Lib.hid ha2; have HX30 := Lib.hid hx30
        clear hx hp1 hAl he hwd hsaid hs hg ha2 hx30
        go_wp2_with fail
        refine (seSay_any ps (seAt A) x HSAID.out HP1.out).mono ?_
        rintro e w2 ⟨rfl, ho⟩
        rw [HS.out] at ho
        rw [HE.out, HG.out, errV0]
        have hcw2 : w2.cell? (aw.add k) = some (.int .i64 x) := by
          obtain ⟨aw2, e2, hc⟩ := (HVW.out.later ho).at k hlt
          cases e2; rw [hc, HX.out]
        have ho2 := ho.perm (star_left_comm _ _ _)
        unfold IntSl at ho2
        rw [HA.out.1] at ho2
        have HO2 := Lib.hid ho2
        have hq : ((k : Int) + 1 != ((k + 1 : Nat) : Int)) = false := by simp
        clear ho ho2 hcw
        go_wp2_with (at_builtin; refine wpList_app rfl _ _ 44 rfl 3 1 8 _ info_int Try.underlying44 rfl (by decide) rfl (HO2.out.alloc' _) rfl (by rfl) (Rd_lit (by simp) (by unfold maxLen; omega)) (by intro u hu; simp at hu; subst hu; rfl) (by unfold maxLen; omega) (by omega) ?_; intro v' w3 hown3; obtain ⟨ad3, cp3, rfl, _⟩ := Own.rd hown3; have HO3 := Lib.hid hown3; clear hown3)
        refine ⟨⟨k + 1, A ++ [x], by omega, by omega, by go_num, HA2, Lib.hid (HO3.out.perm ?_)⟩, by simp [intOf] <;> omega⟩
        unfold IntSl
        rw [HA2.out.1]
        simp
    · rcases (by omega : words.length ≤ k ∨ (k < words.length ∧ 30 ≤ k)) with hge | ⟨hlt1, hge⟩
      all_goals
        clear hlt
        go_wp2_with fail
        go_loopw [15, 19] (fun hv i w2 => ∃ (j : Nat) (f : Fi) (h : Nat), j ≤ order.length ∧ i = .int .i64 j ∧ Hid (FInv A f h) ∧ Hid (Own w (IntSl hv (A.take h) * (HeP ph f * (IntSl (.slice ad k cp) A * (SeP ps (seAt A) * emp)))) w2)) (fun _ i _ => order.length - (intOf i).toNat)
        case atStart => exact ⟨0, fiNew, 0, Nat.zero_le _, rfl, Lib.hid (fInv_new A), Lib.hid ((HP.out.perm (by ac_rfl : _ = HeP ph fiNew * (IntSl (.slice ad k cp) A * (SeP ps (seAt A) * emp)))).sl_nil _ _)⟩
        case round =>
          clear HP
          obtain ⟨j, f, h, hj, rfl, HI, HP⟩ := hrel
          by_cases hlt : j < order.length
          · obtain ⟨ao, haoe, hco⟩ := (HVO.out.later HP.out).at j hlt
            obtain ⟨x, hx⟩ : ∃ x, x = order[j] := ⟨_, rfl⟩
            rw [← hx] at hco
            subst haoe
            by_cases hx1 : x < 1
            · have HX := Lib.hid hx
              clear hx
              go_wp2
              exact ⟨⟨j + 1, f, h, by omega, by go_num, HI, HP⟩, by simp [intOf] <;> omega⟩
            · by_cases hx2 : (k : Int) < x
              · have HX := Lib.hid hx
                clear hx
                go_wp2
                exact ⟨⟨j + 1, f, h, by omega, by go_num, HI, HP⟩, by simp [intOf] <;> omega⟩
              · obtain ⟨m, hm⟩ := Int.eq_ofNat_of_zero_le (show 0 ≤ x - 1 by omega)
                obtain rfl : x = (m : Int) + 1 := by omega
                have hmk : m < k := by omega
                have hpa := HP.out.perm (star_rot3 _ _ _ _)
                obtain ⟨ba, offa, capa, hva, hca1, _, hca, _⟩ := hpa.ints_at (by rw [HA.out.1]; omega)
                obtain ⟨y, hy⟩ : ∃ y, A[m]? = some y := ⟨_, List.getElem?_eq_getElem (by rw [HA.out.1]; exact hmk)⟩
                have hcy := hca m (by rw [HA.out.1]; exact hmk)
                obtain ⟨hmA, hye⟩ := List.getElem?_eq_some_iff.1 hy
                rw [hye] at hcy
                have hade : ad = some ⟨ba, offa, none⟩ := by injection hva
                subst hade
                obtain ⟨t1, c, t2, t3, t4, t5⟩ := he_take HI.out HA.out.2 (m + 1) y (by omega) (by rw [HA.out.1]; omega) (by simpa using hy)
                rw [show ((m + 1 : Nat) : Int) = (m : Int) + 1 from by omega] at t1 t2 t3 t4 t5
                have hfit := HI.out.fit HA.out.2
                have hln := aw_len HA.out.2.1 t3
                have hp1 := HP.out.perm (star_left_comm _ _ _)
                have HX := Lib.hid hx; have HM := Lib.hid hm; have HY := Lib.hid hy; have T1 := Lib.hid t1; have T2 := Lib.hid t2; have T3 := Lib.hid t3; have HFIT := Lib.hid hfit; have HP1 := Lib.hid hp1; have HLN := Lib.hid hln
                clear hx hm hy t1 t2 t3 t4 t5 hfit hp1 hpa hca hva hye hca1 hln
                go_wp2_with fail
                refine (heTake_any ph f ((m : Int) + 1) y HFIT.out HP1.out).mono ?_
                rintro e w3 ⟨v, rfl, ho⟩
                rw [T1.out, errV0]
                have hrd := Own.rd ho
                have ho2 := ho.perm (star_rot3 _ _ _ _)
                unfold IntSl at ho2
                have HO2 := Lib.hid ho2; have HRD := Lib.hid hrd
                clear ho ho2 hrd hcy
                go_wp2_with (at_builtin; refine wpList_app rfl _ _ 44 rfl 3 1 8 _ info_int Try.underlying44 rfl (by decide) rfl HO2.out rfl (by simp) HRD.out (int_one _) (by have := HLN.out; unfold maxLen; omega) (by have := HLN.out; omega) ?_; intro v' w4 hown4; have HO4 := Lib.hid hown4; clear hown4)
                exact ⟨⟨j + 1, fiTake f 0 ((m : Int) + 1) y, h + c, by omega, by go_num, T2, Lib.hid (aw_app T3.out HO4.out)⟩, by simp [intOf] <;> omega⟩
          · have hfit := HI.out.fit HA.out.2
            have hp1 := HP.out.perm (star_left_comm _ _ _)
            have hcn : isCount (k : Int) = true := by simp [isCount]; omega
            obtain ⟨xs, hxs⟩ : ∃ xs, xs = heLacks f (k : Int) := ⟨_, rfl⟩
            have hxm := fun z => heLacks_mem HI.out HA.out.2 z
            rw [HA.out.1, ← hxs] at hxm
            have hxl40 : xs.length ≤ 40 := by rw [hxs]; exact heLacks_len _ _
            have HFIT := Lib.hid hfit; have HP1 := Lib.hid hp1; have HCN := Lib.hid hcn; have HXS := Lib.hid hxs; have HXM := Lib.hid hxm
            clear hfit hp1 hcn hxs hxm
            go_wp2_with fail
            refine (heLacks_any ph f (k : Int) HFIT.out HP1.out).mono ?_
            rintro e w3 ⟨vl, rfl, ho⟩
            rw [HCN.out, if_pos rfl, errV0]
            rw [← HXS.out] at ho
            obtain ⟨adl, cpl, hvl⟩ := ho.int_shape
            subst hvl
            have HOL := Lib.hid (ho.perm (star_rot3 _ _ _ _))
            clear ho
            go_wp2_with fail
            go_loopw [15, 25] (fun hv i w4 => ∃ (t : Nat) (f2 : Fi) (h2 : Nat), t ≤ xs.length ∧ i = .int .i64 t ∧ Hid (FInv A f2 h2 ∧ (∀ n, fiHas f 0 n = true → fiHas f2 0 n = true) ∧ ∀ z ∈ xs.take t, fiHas f2 0 z = true) ∧ Hid (Own w (IntSl hv (A.take h2) * (IntSl (.slice adl xs.length cpl) xs * (HeP ph f2 * (IntSl (.slice ad k cp) A * (SeP ps (seAt A) * emp))))) w4)) (fun _ i _ => xs.length - (intOf i).toNat)
            case atStart => exact ⟨0, f, h, Nat.zero_le _, rfl, ⟨HI.out, fun _ h => h, by simp⟩, HOL⟩
            case round =>
              clear HP HP1
              obtain ⟨t, f2, h2, ht, rfl, HI2, HP⟩ := hrel
              by_cases htl : t < xs.length
              · obtain ⟨z, hz⟩ : ∃ z, z = xs[t] := ⟨_, rfl⟩
                obtain ⟨b6, off6, cap6, hv6, _, _, hc6, _⟩ := (HP.out.perm (star_left_comm _ _ _)).ints_at (by omega)
                have hcz := hc6 t htl
                rw [← hz] at hcz
                have hadl : adl = some ⟨b6, off6, none⟩ := by injection hv6
                subst hadl
                have hzm := (HXM.out z).1 (by rw [hz]; exact List.getElem_mem htl)
                obtain ⟨m, hm⟩ := Int.eq_ofNat_of_zero_le (show 0 ≤ z - 1 by omega)
                obtain rfl : z = (m : Int) + 1 := by omega
                have hmk : m < k := by omega
                obtain ⟨y, hy⟩ : ∃ y, A[m]? = some y := ⟨_, List.getElem?_eq_getElem (by rw [HA.out.1]; exact hmk)⟩
                obtain ⟨a1, a2⟩ := aw_ask A (m + 1) (by omega) (by rw [HA.out.1]; omega)
                rw [show ((m + 1 : Nat) : Int) = (m : Int) + 1 from by omega] at a1 a2
                have hay : seAsk (seAt A) ((m : Int) + 1) = y := by rw [a2]; simp [hy]
                obtain ⟨t1, c, t2, t3, t4, t5⟩ := he_take HI2.out.1 HA.out.2 (m + 1) y (by omega) (by rw [HA.out.1]; omega) (by simpa using hy)
                rw [show ((m + 1 : Nat) : Int) = (m : Int) + 1 from by omega] at t1 t2 t3 t4 t5
                have hfit2 := HI2.out.1.fit HA.out.2
                have hln := aw_len HA.out.2.1 t3
                have hps := HP.out.perm (by ac_rfl : _ = SeP ps (seAt A) * (IntSl u15 (A.take h2) * (IntSl (.slice (some ⟨b6, off6, none⟩) xs.length cpl) xs * (HeP ph f2 * (IntSl (.slice ad k cp) A * emp)))))
                have hp1 := HP.out.perm (star_rot3 _ _ _ _)
                have hsaid : (seAt A).said ≤ 1000000 := by show A.length ≤ _; rw [HA.out.1]; omega
                have hnew : Hid (FInv A (fiTake f2 0 ((m : Int) + 1) y) (h2 + c) ∧ (∀ n, fiHas f 0 n = true → fiHas (fiTake f2 0 ((m : Int) + 1) y) 0 n = true) ∧ ∀ z ∈ xs.take (t + 1), fiHas (fiTake f2 0 ((m : Int) + 1) y) 0 z = true) :=
                  ⟨t2, fun n hn => t4 n (HI2.out.2.1 n hn), fun z hz2 => by
                    rw [List.take_succ_eq_append_getElem htl] at hz2
                    rcases List.mem_append.1 hz2 with h | h
                    · exact t4 z (HI2.out.2.2 z h)
                    · simp at h; rw [h, ← hz]; exact t5⟩
                have HZ := Lib.hid hz; have HM := Lib.hid hm; have HY := Lib.hid hy; have A1 := Lib.hid a1; have HAY := Lib.hid hay; have T1 := Lib.hid t1; have T3 := Lib.hid t3; have HFIT2 := Lib.hid hfit2; have HLN := Lib.hid hln; have HPS := Lib.hid hps; have HP1 := Lib.hid hp1; have HSAID := Lib.hid hsaid
                clear hz hm hy a1 a2 hay t1 t2 t3 t4 t5 hfit2 hln hps hp1 hc6 hv6 hzm hsaid
                go_wp2_with fail
                refine (seAsk_any ps (seAt A) ((m : Int) + 1) HSAID.out HPS.out).mono ?_
                rintro e w5 ⟨rfl, rfl⟩
                rw [A1.out, HAY.out, errV0]
                go_wp2_with fail
                refine (heTake_any ph f2 ((m : Int) + 1) y HFIT2.out HP1.out).mono ?_
                rintro e w6 ⟨v, rfl, ho⟩
                rw [T1.out, errV0]
                have hrd := Own.rd ho
                have ho2 := ho.perm (star_rot3 _ _ _ _)
                unfold IntSl at ho2
                have HO2 := Lib.hid ho2; have HRD := Lib.hid hrd
                clear ho ho2 hrd hcz
                go_wp2_with (at_builtin; refine wpList_app rfl _ _ 44 rfl 3 1 8 _ info_int Try.underlying44 rfl (by decide) rfl HO2.out rfl (by simp) HRD.out (int_one _) (by have := HLN.out; unfold maxLen; omega) (by have := HLN.out; omega) ?_; intro v' w7 hown7; have HO7 := Lib.hid hown7; clear hown7)
                refine ⟨⟨t + 1, fiTake f2 0 ((m : Int) + 1) y, h2 + c, by omega, by go_num, hnew, ?_⟩, by simp [intOf] <;> omega⟩
                exact Lib.hid ((aw_app T3.out HO7.out).perm (by unfold IntSl; ac_rfl))
              · have htx : xs.take t = xs := List.take_of_length_le (by omega)
                have hall := aw_all HI.out HA.out.2 HI2.out.1 HI2.out.2.1 (fun z hz => HI2.out.2.2 z (by rw [htx, HXS.out, ← HA.out.1]; exact hz))
                have hp8 := HP.out
                rw [hall, List.take_length] at hp8
                have hAI : ∀ y ∈ A, I64 y := fun y hy => by have := HA.out.2.2 y hy; unfold I64; omega
                have hr1 : Ints wr u15 A := ⟨Own.rd hp8, hAI⟩
                have hr2 : Ints wr (.slice ad k cp) A := ⟨by have h := hp8.drop.drop.drop; exact Own.rd h, hAI⟩
                have hbq : (A == A) = true := by simp
                have hpf := hp8.drop.drop.drop.perm (star_left_comm _ _ _)
                have hsaid : (seAt A).said ≤ 1000000 := by show A.length ≤ _; rw [HA.out.1]; omega
                have HBQ := Lib.hid hbq; have HR1 := Lib.hid hr1; have HR2 := Lib.hid hr2; have HPF := Lib.hid hpf; have HSAID := Lib.hid hsaid
                clear hp8 hr1 hr2 hbq hpf htx hall hAI hsaid
                go_wp2_with fail
                refine (sameInts_any _ _ A A _ HR1.out HR2.out).mono ?_
                rintro e w8 ⟨rfl, nd, rfl⟩
                rw [HBQ.out]
                go_wp2_with fail
                refine (seFree_any ps (seAt A) free HSAID.out (HPF.out.drewN _)).mono ?_
                rintro e w9 ⟨rfl, ho⟩
                have hbel := ho.below
                by_cases hf1 : free < 0
                · have he : seFreeErr (seAt A) free = 1 := by rw [aw_free_err, if_pos hf1]
                  rw [he, aw_errV1]
                  clear ho he
                  go_wp2
                  go_ret
                  exact ⟨rfl, hbel⟩
                by_cases hf2 : (k : Int) < free
                · have he : seFreeErr (seAt A) free = 1 := by rw [aw_free_err, if_neg hf1, HA.out.1, if_pos hf2]
                  rw [he, aw_errV1]
                  clear ho he
                  go_wp2
                  go_ret
                  exact ⟨rfl, hbel⟩
                have he : seFreeErr (seAt A) free = 0 := by rw [aw_free_err, if_neg hf1, HA.out.1, if_neg hf2]
                have hak := fun t => aw_free A free he t
                rw [he, errV0]
                have HO9 := Lib.hid ho; have HAK := Lib.hid hak
                have hs2 : (seFree (seAt A) free).said ≤ 1000000 := by unfold seFree; split <;> (show A.length ≤ _; rw [HA.out.1]; omega)
                have HS2 := Lib.hid hs2
                clear ho he hak hs2
                go_wp2_with fail
                go_loopw [30] (fun i w10 => ∃ t : Nat, 1 ≤ t ∧ t ≤ k + 1 ∧ i = .int .i64 t ∧ Hid (Own w (SeP ps (seFree (seAt A) free) * (IntSl (.slice ad k cp) A * emp)) w10)) (fun i _ => k + 1 - (intOf i).toNat)
                case atStart => exact ⟨1, Nat.le_refl _, by omega, rfl, HO9⟩
                case round =>
                  obtain ⟨t9, ht1, ht2, rfl, HP9⟩ := hrel
                  by_cases htk : t9 ≤ k
                  · have ha9 := HAK.out t9 ht1 (by rw [HA.out.1]; exact htk)
                    by_cases hfk : free < (t9 : Int)
                    · rw [if_pos hfk] at ha9
                      have hd : decide (free < (t9 : Int)) = true := by simp [hfk]
                      have HA9 := Lib.hid ha9
                      clear ha9
                      go_wp2_with fail
                      refine (seAsk_any ps _ (t9 : Int) HS2.out HP9.out).mono ?_
                      rintro e w11 ⟨rfl, rfl⟩
                      rw [HA9.out, errV0]
                      go_wp2
                      exact ⟨⟨t9 + 1, by omega, by omega, by go_num, HP9⟩, by simp [intOf] <;> omega⟩
                    · rw [if_neg hfk] at ha9
                      have hd : decide (free < (t9 : Int)) = false := by simp; omega
                      have HA9 := Lib.hid ha9
                      clear ha9
                      go_wp2_with fail
                      refine (seAsk_any ps _ (t9 : Int) HS2.out HP9.out).mono ?_
                      rintro e w11 ⟨rfl, rfl⟩
                      rw [HA9.out, aw_errV5]
                      go_wp2
                      exact ⟨⟨t9 + 1, by omega, by omega, by go_num, HP9⟩, by simp [intOf] <;> omega⟩
                  · go_wp2
                    go_ret
                    exact ⟨rfl, HP9.out.below⟩
end Go.Proofs.Ytclapdicocbnoaa
