/- FifoWhole: of words that come in any order all are heard, when all have come, each once, in the order of their numbers. -/
import Derived.Test.YteelldblfmhjlaaDoorFifoP
import Derived.Test.YteelldblfmhjlaaDoorAgainWhole
import Derived.Test.YteelldblfmhjlaaDoorTold
namespace Go.Proofs.YteelldblfmhjlaaDoor
set_option linter.unusedVariables false
set_option linter.unusedSimpArgs false
open Go.RowKit
def oneTo (N : Nat) : List Int := (List.range N).map fun i : Nat => (i : Int) + 1
theorem oneTo_len (N : Nat) : (oneTo N).length = N := by simp [oneTo]
theorem oneTo_get (N i : Nat) (h : i < N) : (oneTo N)[i]? = some ((i : Int) + 1) := by simp [oneTo, h]
theorem oneTo_ok {N : Nat} (h : N ≤ 30) : wordsOk (oneTo N) := ⟨by rw [oneTo_len]; exact h, fun x hx => by
  obtain ⟨i, hi, rfl⟩ := List.mem_map.1 hx
  have := List.mem_range.1 hi
  omega⟩
/-- A block of Bools. -/
def Bls (b : Nat) (l : List Bool) : HProp := blk b (.cells (l.map Value.bool).toArray 48 (0, 0))
theorem Own.bls_cell {w0 w : World} {b : Nat} {l : List Bool} {R : HProp} (h : Own w0 (Bls b l * R) w) (i : Nat) (hi : i < l.length) : w.cell? ⟨b, i, none⟩ = some (.bool (l.getD i false)) := by
  rw [Own.cell h]; simp [hi]
theorem Own.bls_free {w0 w : World} {b : Nat} {l : List Bool} {R : HProp} (h : Own w0 (Bls b l * R) w) (i : Nat) : w.frozen? ⟨b, i, none⟩ = false := Own.free h i none
theorem Own.bls_set {w0 w : World} {b : Nat} {l : List Bool} {R : HProp} (i : Nat) (x : Bool) (h : Own w0 (Bls b l * R) w) : Own w0 (Bls b (l.set i x) * R) (w.setCell ⟨b, i, none⟩ (.bool x)) := by
  have h1 := Own.setCell (i := i) (v := .bool x) h
  unfold Bls
  refine h1.perm ?_
  simp [List.map_set]
def Is31 (wh N : Nat) (f : Fi) (bs : List Bool) : Prop := bs.length = 31 ∧ ∀ j : Nat, 1 ≤ j → j ≤ N → bs.getD j false = fiHas f (wh : Int) j
theorem is31_new (wh N : Nat) (hwh : wh < 5) (hN : N ≤ 30) : Is31 wh N fiNew (List.replicate 31 false) := by
  refine ⟨by simp, fun j h1 h2 => ?_⟩
  have e : (List.replicate 31 false).getD j false = false := by
    rw [List.getD_eq_getElem?_getD]
    cases h : (List.replicate 31 false)[j]? with
    | none => rfl
    | some x => exact (List.mem_replicate.1 (List.mem_of_getElem? h)).2
  rw [e]
  have : fiN fiNew (wh : Int) = 1 := by
    have : wh = 0 ∨ wh = 1 ∨ wh = 2 ∨ wh = 3 ∨ wh = 4 := by omega
    rcases this with rfl | rfl | rfl | rfl | rfl <;> rfl
  unfold fiHas
  rw [this]
  simp [fiNew, mget]
  omega
theorem is31_put {wh N k : Nat} {f f' : Fi} {bs : List Bool} (h : Is31 wh N f bs) (hk : k < 31) (h1 : ∀ j, fiHas f (wh : Int) j = true → fiHas f' (wh : Int) j = true) (h2 : fiHas f' (wh : Int) k = true) (h3 : ∀ j, fiHas f' (wh : Int) j = true → fiHas f (wh : Int) j = true ∨ j = (k : Int)) : Is31 wh N f' (bs.set k true) := by
  refine ⟨by rw [List.length_set]; exact h.1, fun j a b => ?_⟩
  by_cases e : k = j
  · subst e
    have := h.1
    rw [h2]; simp [show k < bs.length from by omega]
  · have e1 : (bs.set k true).getD j false = bs.getD j false := by simp [List.getD_eq_getElem?_getD, List.getElem?_set_ne e]
    rw [e1, h.2 j a b]
    cases hb : fiHas f (wh : Int) j with
    | true => exact (h1 _ hb).symm
    | false =>
      cases hb2 : fiHas f' (wh : Int) j with
      | false => rfl
      | true =>
        rcases h3 _ hb2 with h4 | h4
        · rw [hb] at h4; cases h4
        · omega
theorem fw_bad : fiErr fiNew 5 1 1 = 1 ∧ fiTake fiNew 5 1 1 = fiNew ∧ fiFit fiNew := by
  have e : fiErr fiNew 5 1 1 = 1 := by decide
  refine ⟨e, by unfold fiTake; rw [if_neg (by rw [e]; simp)], rfl, fun x hx => by simp [fiNew] at hx; omega, by simp [fiNew], fun p hp => by simp [fiNew] at hp⟩
theorem fw_same {f : Fi} {who n word : Int} (h : fiErr f who n word ≠ 0) : fiTake f who n word = f ∧ fiOut f who n word = [] := by
  unfold fiTake fiOut; rw [if_neg h, if_neg h]; exact ⟨rfl, rfl⟩
theorem fw_len {A out : List Int} {h c : Nat} (hA : A.length ≤ 30) (e : A.take h ++ out = A.take (h + c)) : (A.take h).length + out.length ≤ 30 := aw_len hA e
set_option maxRecDepth 100000 in
set_option maxHeartbeats 4000000 in
theorem fifoWhole_law (w : World) (hg : As.Handle w) (n : Int) (_hn : I64 n) (vo : Value) (order : List Int) (hvo : Ints w vo order) (who : Int) (_hw : I64 who) :
    Calls Tryd.prog 5 #[.int .i64 n, vo, .int .i64 who] w fun e w' => e = .returned (.bool true) ∧ Below w.heap.size w w' := by
  obtain ⟨oad, ocap, rfl, hoc1, hoc2⟩ := hvo.shape
  have HVO := Lib.hid hvo; have HG := Lib.hid hg
  clear hvo hg
  by_cases hb : n < 1 ∨ 30 < n ∨ who < 0 ∨ 4 < who
  · have F := Lib.hid fw_bad
    have hh : n < 1 ∨ (¬ n < 1 ∧ 30 < n) ∨ (¬ n < 1 ∧ ¬ 30 < n ∧ who < 0) ∨ (¬ n < 1 ∧ ¬ 30 < n ∧ ¬ who < 0 ∧ 4 < who) := by omega
    clear hb
    rcases hh with h1 | ⟨h1, h2⟩ | ⟨h1, h2, h3⟩ | ⟨h1, h2, h3, h4⟩
    all_goals
      go_enter Tryd.func5, Tryd.ntmps5
      go_wp2_with fail
      refine (fiNew_any (Own.start w)).mono ?_
      rintro e w' ⟨p, rfl, ho⟩
      have HO := Lib.hid ho
      clear ho
      go_wp2_with fail
      refine (fiTake_any p fiNew 5 1 1 F.out.2.2 HO.out).mono ?_
      rintro e w' ⟨v, rfl, ho⟩
      rw [F.out.1]
      rw [F.out.2.1] at ho
      have HO1 := Lib.hid (ho.perm (star_left_comm _ _ _))
      clear ho HO
      go_wp2_with fail
      refine (sameErr_any HG.out 1 1 HO1.out).mono ?_
      rintro e w' ⟨rfl, ho⟩
      have HO2 := Lib.hid ho
      clear ho HO1
      go_wp2_with fail
      refine (fiWaits_any p fiNew rfl HO2.out).mono ?_
      rintro e w' ⟨rfl, rfl⟩
      rw [show fiNew.waits.length = 0 from rfl]
      go_wp2
      go_ret
      exact ⟨rfl, HO2.out.below⟩
  have hb2 : 1 ≤ n ∧ n ≤ 30 ∧ 0 ≤ who ∧ who ≤ 4 := by omega
  obtain ⟨N, rfl⟩ := Int.eq_ofNat_of_zero_le (show 0 ≤ n by omega)
  obtain ⟨wh, rfl⟩ := Int.eq_ofNat_of_zero_le (show 0 ≤ who by omega)
  have hwh : wh < 5 := by omega
  have h1 : 1 ≤ N := by omega
  have h2 : N ≤ 30 := by omega
  have i1 : (1 : Int) ≤ N := by omega
  have i2 : (N : Int) ≤ 30 := by omega
  have i3 : (wh : Int) ≤ 4 := by omega
  have AOK := Lib.hid (oneTo_ok h2)
  have ALN := Lib.hid (oneTo_len N)
  clear hb hb2
  go_enter Tryd.func5, Tryd.ntmps5
  go_wp2_with fail
  refine (fiNew_any (Own.start w)).mono ?_
  rintro e w' ⟨p, rfl, ho⟩
  obtain ⟨b, hbq⟩ : ∃ b, b = w'.heap.size := ⟨_, rfl⟩
  have ho1 := (ho.alloc (.cells ((List.replicate 31 false).map Value.bool).toArray 48))
  rw [← hbq] at ho1
  have HO : Hid (Own w (IntSl (.slice none 0 0) ((oneTo N).take 0) * (FiP p fiNew * (Bls b (List.replicate 31 false) * emp))) (w'.alloc (.cells ((List.replicate 31 false).map Value.bool).toArray 48))) := Lib.hid ((ho1.perm (star_left_comm _ _ _)).sl_nil _ _)
  have HI0 := Lib.hid (fiw_new wh hwh (oneTo N))
  have HB0 := Lib.hid (is31_new wh N hwh h2)
  clear ho ho1
  go_wp2_with fail
  rw [← hbq]
  clear hbq
  go_loopw [11, 13] (fun hv iv wr => ∃ (k h : Nat) (f : Fi) (bs : List Bool), k ≤ order.length ∧ h ≤ N ∧ iv = .int .i64 k ∧ Hid (FIW wh (oneTo N) f h) ∧ Hid (Is31 wh N f bs) ∧ Hid (Own w (IntSl hv ((oneTo N).take h) * (FiP p f * (Bls b bs * emp))) wr)) (fun _ iv _ => order.length - (intOf iv).toNat)
  case atStart => exact ⟨0, 0, fiNew, _, Nat.zero_le _, Nat.zero_le _, rfl, HI0, HB0, HO⟩
  case round =>
    clear HI0 HB0 HO
    obtain ⟨k, h, f, bs, hk, hhN, rfl, HI, HBS, HP⟩ := hrel
    by_cases hlt : k < order.length
    rotate_left
    · obtain ⟨ad, cp, hv⟩ := HP.out.int_shape
      have htl : ((oneTo N).take h).length = h := by rw [List.length_take, ALN.out]; omega
      rw [htl] at hv
      subst hv
      have hq := HP.out.perm (show _ = Bls b bs * (IntSl (.slice ad h cp) ((oneTo N).take h) * (FiP p f * emp)) by ac_rfl)
      have hcell := fun j (hj : j < 31) => hq.bls_cell j (by rw [HBS.out.1]; exact hj)
      have HM := Lib.hid (fw_many HI.out)
      have hcp : h ≤ cp := by
        obtain ⟨_, _, e, h5, _⟩ := Own.rd HP.out
        injection e with _ e5 e6
        omega
      have hget : ∀ i, i < h → ∃ bb off, ad = some ⟨bb, off, none⟩ ∧ wr.cell? ⟨bb, off + i, none⟩ = some (.int .i64 ((i : Int) + 1)) := fun i hi => by
        obtain ⟨bb, off, cap, e, _, _, hc, _⟩ := HP.out.ints_at (by omega)
        injection e with e1 e2 e3
        refine ⟨bb, off, e1, ?_⟩
        rw [hc i (by omega)]
        have h6 := oneTo_get N i (by omega)
        have h7 : ((oneTo N).take h)[i]? = some ((i : Int) + 1) := by rw [List.getElem?_take, if_pos hi]; exact h6
        rw [List.getElem?_eq_getElem (by omega)] at h7
        injection h7 with h7
        rw [h7]
      have HGET := Lib.hid hget
      have HTL := Lib.hid htl; have HQ := Lib.hid hq; have HCELL := Lib.hid hcell
      clear htl hq hcell
      clear hget
      go_wp2_with fail
      go_loop [17] (fun mv => ∃ m : Nat, m ≤ N ∧ mv = .int .i64 m ∧ Hid (∀ j : Nat, 1 ≤ j → j ≤ m → fiHas f (wh : Int) j = true)) (fun mv => N - (intOf mv).toNat)
      case atStart => exact ⟨0, Nat.zero_le _, rfl, Lib.hid (fun j h1 h2 => by omega)⟩
      case round =>
        obtain ⟨m, hm, rfl, hp⟩ := hrel
        by_cases hmN : m < N ∧ fiHas f (wh : Int) ((m + 1 : Nat) : Int) = true
        · obtain ⟨hm1, hm2⟩ := hmN
          have c5 := HCELL.out (m + 1) (by omega)
          rw [HBS.out.2 (m + 1) (by omega) (by omega), hm2] at c5
          have hn : ∀ j : Nat, 1 ≤ j → j ≤ m + 1 → fiHas f (wh : Int) j = true := fun j a b => by
            by_cases e : j ≤ m
            · exact hp.out j a e
            · have : j = m + 1 := by omega
              subst this; exact hm2
          have i5 : (0 : Int) ≤ (m : Int) + 1 := by omega
          have i6 : (m : Int) + 1 < 31 := by omega
          have HN := Lib.hid hn; have HM2 := Lib.hid hm2
          clear hn hm2
          go_wp2_with fail
          go_round
          case rel => exact ⟨m + 1, by omega, by go_num, HN⟩
          case measure => simp [intOf]; omega
        have hmh : m = h := by
          rcases Nat.lt_trichotomy m h with hl | hl | hl
          · exact absurd ⟨by omega, HM.out.1 (m + 1) (by omega) (by omega)⟩ hmN
          · exact hl
          · have := hp.out (h + 1) (by omega) (by omega)
            have h8 := HM.out.2
            rw [show ((h + 1 : Nat) : Int) = (h : Int) + 1 by omega, h8] at this
            cases this
        subst hmh
        have hrest : m < N → fiHas f (wh : Int) ((m + 1 : Nat) : Int) = false := fun hl => by
          cases hz : fiHas f (wh : Int) ((m + 1 : Nat) : Int) with
          | false => rfl
          | true => exact absurd ⟨hl, hz⟩ hmN
        have HREST := Lib.hid hrest
        clear hrest hmN
        have hm60 : m ≤ 30 := by omega
        by_cases hl : m < N
        · have c5 := HCELL.out (m + 1) (by omega)
          rw [HBS.out.2 (m + 1) (by omega) (by omega), HREST.out hl] at c5
          have i5 : (0 : Int) ≤ (m : Int) + 1 := by omega
          have i6 : (m : Int) + 1 < 31 := by omega
          go_wp2_with fail
          clear c5
          go_loop [18] (fun iv => ∃ i : Nat, i ≤ m ∧ iv = .int .i64 i) (fun iv => m - (intOf iv).toNat)
          case atStart => exact ⟨0, Nat.zero_le _, rfl⟩
          case round =>
            obtain ⟨i, hi, rfl⟩ := hrel
            by_cases h9 : i < m
            · obtain ⟨bb, off, rfl, c6⟩ := HGET.out i h9
              go_wp2_with fail
              go_round
              case rel => exact ⟨i + 1, by omega, by go_num⟩
              case measure => simp [intOf]; omega
            · go_wp2_with fail
              go_ret
              exact ⟨rfl, HP.out.below⟩
        · go_wp2_with fail
          go_loop [18] (fun iv => ∃ i : Nat, i ≤ m ∧ iv = .int .i64 i) (fun iv => m - (intOf iv).toNat)
          case atStart => exact ⟨0, Nat.zero_le _, rfl⟩
          case round =>
            obtain ⟨i, hi, rfl⟩ := hrel
            by_cases h9 : i < m
            · obtain ⟨bb, off, rfl, c6⟩ := HGET.out i h9
              go_wp2_with fail
              go_round
              case rel => exact ⟨i + 1, by omega, by go_num⟩
              case measure => simp [intOf]; omega
            · go_wp2_with fail
              go_ret
              exact ⟨rfl, HP.out.below⟩
    obtain ⟨oa, rfl, hoc⟩ := HVO.out.at_later k hlt
    obtain ⟨x, hx⟩ : ∃ x, x = order[k] := ⟨_, rfl⟩
    rw [← hx] at hoc
    have c1 := hoc _ _ HP.out
    have HX := Lib.hid hx; have HOC := Lib.hid hoc
    clear hx hoc
    by_cases hx1 : x < 1
    · go_wp2_with fail
      go_roundw
      case rel => exact ⟨k + 1, h, f, bs, by omega, hhN, by go_num, HI, HBS, HP⟩
      case measure => simp [intOf]; omega
    by_cases hx2 : (N : Int) < x
    · go_wp2_with fail
      go_roundw
      case rel => exact ⟨k + 1, h, f, bs, by omega, hhN, by go_num, HI, HBS, HP⟩
      case measure => simp [intOf]; omega
    obtain ⟨j, rfl⟩ := Int.eq_ofNat_of_zero_le (show 0 ≤ x by omega)
    have hj1 : 1 ≤ j := by omega
    have hjN : j ≤ N := by omega
    have T := fw_take hwh HI.out AOK.out j (j : Int) hj1 (by rw [ALN.out]; exact hjN) (by rw [oneTo_get N (j - 1) (by omega)]; congr 1; omega)
    have HFT := Lib.hid (HI.out.fit AOK.out)
    have hbl : j < bs.length := by rw [HBS.out.1]; omega
    have hbv := HBS.out.2 j hj1 hjN
    obtain ⟨he, c, T2, T3, T4, T5, T6⟩ := T
    have hj0 : (0 : Int) ≤ (j : Int) := by omega
    have hj31 : (j : Int) < 31 := by omega
    cases hold : fiHas f (wh : Int) j
    case true =>
      rw [hold] at he hbv
      have hsm := fw_same (f := f) (who := (wh : Int)) (n := (j : Int)) (word := (j : Int)) (by rw [he]; simp)
      clear T2 T3 T4 T5 T6
      have HE := Lib.hid he; have HBV := Lib.hid hbv; have HSM := Lib.hid hsm; have HOLD := Lib.hid hold
      clear he hbv hsm hold
      go_wp2_with fail
      refine (fiTake_any p f wh j j HFT.out (HP.out.perm (star_left_comm _ _ _))).mono ?_
      rintro e w' ⟨v, rfl, ho⟩
      rw [HSM.out.1, HSM.out.2] at ho
      rw [HE.out]
      have HO1 := Lib.hid (ho.drop.perm (star_left_comm _ _ _))
      clear ho c1
      have c2 := (HO1.out.perm (show _ = Bls b bs * (IntSl u11 ((oneTo N).take h) * (FiP p f * emp)) by ac_rfl)).bls_cell j hbl
      rw [HBV.out] at c2
      go_wp2_with fail
      refine (sameErr_any HG.out 7 7 HO1.out).mono ?_
      rintro e w' ⟨rfl, ho⟩
      have HO2 := Lib.hid ho
      clear ho HO1 c2
      go_wp2_with fail
      go_roundw
      case rel => exact ⟨k + 1, h, f, bs, by omega, hhN, by go_num, HI, HBS, HO2⟩
      case measure => simp [intOf]; omega
    case false =>
      rw [hold] at he hbv
      have hput := is31_put HBS.out (k := j) (by omega) T4 T5 T6
      have hhc : h + c ≤ N := by have := T2.hle; rw [ALN.out] at this; exact this
      have hol := fw_len (by rw [ALN.out]; exact h2) T3
      obtain ⟨O, hO⟩ : ∃ O, O = fiOut f wh j j := ⟨_, rfl⟩
      obtain ⟨g, hgg⟩ : ∃ g, g = fiTake f wh j j := ⟨_, rfl⟩
      rw [← hO] at T3 hol
      rw [← hgg] at T2 hput
      have T2' := Lib.hid T2; have T3' := Lib.hid T3; have HO' := Lib.hid hO
      clear T2 T3 hO
      have HE := Lib.hid he; have HBV := Lib.hid hbv; have HPUT := Lib.hid hput; have HOLD := Lib.hid hold; have HGG := Lib.hid hgg
      clear he hbv hput hold hgg
      clear T4 T5 T6
      go_wp2_with fail
      refine (fiTake_any p f wh j j HFT.out (HP.out.perm (star_left_comm _ _ _))).mono ?_
      rintro e w' ⟨v, rfl, ho⟩
      rw [← HO'.out, ← HGG.out] at ho
      rw [HE.out, if_neg (by simp), errV0]
      have HO1 := Lib.hid ho
      have hq := ho.perm (show _ = Bls b bs * (IntSl v O * (IntSl u11 ((oneTo N).take h) * (FiP p g * emp))) by ac_rfl)
      have c2 := hq.bls_cell j hbl
      rw [HBV.out] at c2
      have c3 := hq.bls_free j
      obtain ⟨adv, cpv, rfl⟩ := ho.int_shape
      have HQ := Lib.hid (hq.bls_set j true)
      have HRD := Lib.hid (Own.rd HQ.out.drop)
      clear ho hq c1
      have hq2 := (HQ.out.perm (show _ = IntSl u11 ((oneTo N).take h) * (IntSl (.slice adv O.length cpv) O * (FiP p g * (Bls b (bs.set j true) * emp))) by ac_rfl))
      have HQ2 := Lib.hid hq2
      clear hq2
      go_wp2_with (at_builtin; refine wpList_app rfl _ _ 22 rfl 3 1 8 _ info_int Tryd.underlying22 rfl (by decide) rfl HQ2.out rfl (by simp) HRD.out (int_one _) (by unfold maxLen; omega) (by omega) ?_; intro v4 w4 hown4; have HO4 := Lib.hid hown4; clear hown4)
      go_roundw
      case rel => exact ⟨k + 1, h + c, g, bs.set j true, by omega, hhc, by go_num, T2', HPUT, Lib.hid (aw_app T3'.out HO4.out)⟩
      case measure => simp [intOf]; omega
end Go.Proofs.YteelldblfmhjlaaDoor
