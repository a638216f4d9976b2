/- The reference's Line: the answer of a cast to one. -/
import Derived.Test.YtdfjbnfdknpahaaGreatDoorMRunAnswers23
import Derived.Test.YtdfjbnfdknpahaaGreatDoorMRunAnswers29
import Derived.Test.YtdfjbnfdknpahaaGreatDoorMRunAnswers30
import Derived.Test.YtdfjbnfdknpahaaGreatDoorMRunAnswers28
import Derived.Test.YtdfjbnfdknpahaaGreatDoorMRunAnswers33
import Derived.Test.YtdfjbnfdknpahaaGreatDoorMRunAnswers35
namespace Go.Proofs.YtdfjbnfdknpahaaGreatDoor
set_option linter.unusedVariables false
set_option linter.unusedSimpArgs false
open Go.RowKit Go.Maps
theorem read_long {x : List UInt8} {r : List (List UInt8)} (h : 2 < r.length) : readB (x :: r) = false := by
  cases hw : wantsB x with
  | none => exact read_none hw
  | some m => exact read_len hw (by have := wantsB_le hw; omega)
theorem read_num {x : List UInt8} {r : List (List UInt8)} (h : r.all numOk = false) : readB (x :: r) = false := by
  unfold readB
  rw [show (x :: r).tail = r from rfl, h, Bool.false_and]
theorem lineA_bad {c : Cs} {s x : List UInt8} {r : List (List UInt8)} (hx : cutS 32 s = x :: r) (h : readB (x :: r) = false) : lineA c s = (c, badW) := by
  unfold lineA lineR
  rw [hx, if_neg (by rw [h]; simp)]
  rfl
theorem lineA_do {c : Cs} {s x : List UInt8} {r : List (List UInt8)} (hx : cutS 32 s = x :: r) (h : readB (x :: r) = true) : lineA c s = ((doR c x (argN r 0) (argN r 1)).1, ansB (doR c x (argN r 0) (argN r 1)).2) := by
  unfold lineA lineR
  rw [hx, if_pos h]
  rfl
theorem ans_done {e : Nat} (h : e ≤ 8) : ansB (okW, e) = doneB (e : Int) := by
  unfold ansB doneB
  rw [if_neg (by show e ≠ 9; omega)]
  by_cases h0 : e = 0
  · subst h0; rfl
  · rw [if_neg (by show e ≠ 0; exact h0), if_pos (by omega), Int.toNat_natCast]
theorem ans_told {l : List Int} {e : Nat} (h : e ≤ 8) : ansB (rowT l, e) = toldB l (e : Int) := by
  unfold ansB toldB
  rw [if_neg (by show e ≠ 9; omega)]
  by_cases h0 : e = 0
  · subst h0; rfl
  · rw [if_neg (by show e ≠ 0; exact h0), if_pos (by omega), Int.toNat_natCast]
theorem ans_zero (t : List UInt8) : ansB (t, 0) = t := rfl
theorem Small.ints {l : List Int} (h : Small l) : ∀ x ∈ l, I64 x := fun x hx => by have := h.2 x hx; unfold I64; omega
theorem Small.big {l : List Int} (h : Small l) : ∀ x ∈ l, 0 ≤ x ∧ x ≤ 10000000 := fun x hx => by have := h.2 x hx; omega
theorem CZ.given100 {c : Cs} (h : CZ c) (i : Int) : (csGiven c i).length ≤ 100 := by
  unfold csGiven
  split
  · have := caOut_le (s := csGs c i) (m := csGm c i)
    rename_i he
    have hg := (h.give i).len
    have hh : (csGive c i).hist = c.hist ++ (caOut (csGm c i) (csGs c i)).map fun x => ((ntAt c.net i).2.1, 3, x) := by unfold csGive; rw [if_pos he]
    rw [hh, List.length_append, List.length_map] at hg
    omega
  · simp
/-- What Line reads of the cast. -/
theorem Own.rk_reads {w0 w : World} {q : Nat} {c : Cs} {R : HProp} (h : Own w0 (RkP q c * R) w) : ∃ nb nad ncap hv, w.cell? ⟨q, 1, none⟩ = some (.pointer (some ⟨nb, 0, none⟩)) ∧ w.cell? ⟨nb, 0, none⟩ = some (.slice nad c.net.all.length ncap) ∧ c.net.all.length ≤ ncap ∧ ncap ≤ 9223372036854775807 ∧ w.cell? ⟨q, 96, none⟩ = some hv ∧
    (∃ RN, Own w0 (RnP nb c.net * RN) w ∧ ∀ nt w', Own w0 (RnP nb nt * RN) w' → Own w0 (RkP q { c with net := nt } * R) w') ∧
    (∃ RP, Own w0 (PkSl (.slice nad c.net.all.length ncap) c.net.all * RP) w) ∧
    (∃ RE, Own w0 (EvSl hv c.hist * RE) w ∧ ∀ w', Own w0 (EvSl hv c.hist * RE) w' → Own w0 (RkP q c * R) w') := by
  obtain ⟨mb, off, cap, nb, hv, S, rms, he, h1⟩ := h.rk_open
  obtain ⟨f0, f1, f2, f3, _⟩ := Own.rkb_facts he.len h1.rk_blk
  obtain ⟨nad, ncap, B, hB, n1, n2, h2⟩ := h1.rk_net.rn_open
  have h3 := h2.rn_facts.1
  refine ⟨nb, nad, ncap, hv, f1, h3, n1, n2, f3, ⟨_, h1.rk_net, fun nt w' ho => Own.rk_close ⟨he.mem, he.rows, he.len, he.said⟩ (Own.rk_net_put ho)⟩, ⟨_, h2.rn_all⟩, ⟨_, h1.perm (show _ = EvSl hv c.hist * (rkBlk q (.slice (some ⟨mb, off, none⟩) rms.length cap) nb S (c.said.length : Int) hv * (TabO rmP rmV 64 mb off cap rms * (RnP nb c.net * (starL sdRow S * R)))) by unfold RkO; ac_rfl), fun w' ho => Own.rk_close he (ho.perm (by unfold RkO; ac_rfl))⟩⟩
theorem wantsB_none {w : List UInt8} (h : wantsB w = none) : w ≠ sayW ∧ w ≠ giveW ∧ w ≠ dropW ∧ w ≠ twiceW ∧ w ≠ wayW ∧ w ≠ heardW ∧ w ≠ facesW ∧ w ≠ clockW := by
  unfold wantsB at h
  repeat' split at h
  all_goals first | (cases h; done) | (exact ⟨by assumption, by assumption, by assumption, by assumption, by assumption, by assumption, by assumption, by assumption⟩)
set_option maxHeartbeats 1000000 in
set_option maxRecDepth 100000 in
set_option maxHeartbeats 4000000 in
theorem rline_any {w0 w : World} {R : HProp} (q : Nat) (c : Cs) (hz : CZ c) (s : List UInt8) (hs : s.length ≤ 3000) (h : Own w0 (RkP q c * R) w) :
    Calls Tryz.prog 9 #[.pointer (some ⟨q, 0, none⟩), .string (tx s)] w fun e w' => e = .returned (.string (tx (lineA c s).2)) ∧ Own w0 (RkP q (lineA c s).1 * R) w' := by
  obtain ⟨x, r, hxr⟩ := @cut_words s
  have hws := @cutS_small 32 s
  have hwl := @words_len s
  have hcu := cutS_any s 32 (by omega) h
  rw [hxr] at hws hwl hcu
  obtain ⟨S, hS⟩ : ∃ S, S = tx s := ⟨_, rfl⟩
  rw [← hS] at hcu ⊢
  obtain ⟨n, hn⟩ : ∃ n, n = r.length := ⟨_, rfl⟩
  have hn1 : (x :: r).length = n + 1 := by rw [hn]; rfl
  rw [hn1] at hwl
  obtain ⟨c', T, hL⟩ : ∃ c' t, lineA c s = (c', t) := ⟨_, _, rfl⟩
  rw [hL]
  obtain ⟨A, hA⟩ : ∃ A, A = tx T := ⟨_, rfl⟩
  rw [show tx (c', T).2 = A from hA.symm]
  have H := Lib.hid h; have HZ := Lib.hid hz; have HXR := Lib.hid hxr; have HL := Lib.hid hL; have HWS := Lib.hid hws; have HCU := Lib.hid hcu; have HS := Lib.hid hS; have HN := Lib.hid hn; have HN1 := Lib.hid hn1; have HA := Lib.hid hA
  clear h hz hxr hL hws hcu hS hn hn1 hA
  go_enter Tryz.func9, Tryz.ntmps9
  go_wp2_with fail
  refine HCU.out.mono ?_
  rintro e w2 ⟨v2, rfl, ho⟩
  obtain ⟨b, off, cap, rfl, q1, q2, q3, _, _, _, _⟩ := Own.sl_at ho (by simp)
  rw [HN1.out] at q1 ho ⊢
  obtain ⟨b6, hb_b6⟩ : ∃ zz_, zz_ = (w2).heap.size := ⟨_, rfl⟩
  obtain ⟨w6, hw_w6⟩ : ∃ zz_, zz_ = (w2).alloc (.cells #[.int .i64 0, .int .i64 0] 69 (0, 0)) := ⟨_, rfl⟩
  have h_H6 := (ho).alloc (.cells #[.int .i64 0, .int .i64 0] 69 (0, 0))
  rw [← hb_b6, ← hw_w6] at h_H6
  have H6 := Lib.hid h_H6
  clear h_H6
  clear ho q3
  go_upto_region 3 with fail
  rw [← hb_b6, ← hw_w6]
  clear hb_b6 hw_w6
  obtain ⟨Q, hQ⟩ : ∃ Q, Q = StSl (.slice (some ⟨b, off, none⟩) (n + 1) cap) (x :: r) * (RkP q c * R) := ⟨_, rfl⟩
  have HO6 : Hid (Own w0 (Ar b6 0 0 * Q) w6) := by rw [hQ]; exact H6
  clear H6
  have hcell : ∀ (w : World) (va vb : Int), Own w0 (Ar b6 va vb * Q) w → ∀ (i : Nat) y, (x :: r)[i]? = some y → w.cell? ⟨b, off + i, none⟩ = some (.string (tx y)) := fun w va vb ho i y hi => by
    rw [hQ] at ho
    obtain ⟨b', off', cap', e1, _, _, q3', _⟩ := Own.sl_at ho.drop (by simp)
    cases e1
    exact q3' i _ (by rw [List.getElem?_map, hi]; rfl)
  by_cases h3 : 2 < n
  · have hbad := lineA_bad (c := c) HXR.out (read_long (x := x) (r := r) (by rw [← HN.out]; exact h3))
    rw [HL.out] at hbad
    injection hbad with e1 e2
    subst e1
    have hA2 : A = ⟨#[98, 97, 100]⟩ := by rw [HA.out, e2]; rfl
    have hO := HO6.out.drop
    rw [hQ] at hO
    have hO2 := hO.drop
    have E2 := Lib.hid e2; have HA2 := Lib.hid hA2; have HQ := Lib.hid hQ; have HO := Lib.hid hO; have HO2 := Lib.hid hO2; have HCELL := Lib.hid hcell
    clear e2 hA2 hQ hO hO2 hcell
    go_wp2_with fail
    go_ret
    exact ⟨by rw [HA2.out]; rfl, HO2.out⟩
  · have HQ := Lib.hid hQ; have HCELL := Lib.hid hcell
    clear hQ hcell
    go_wp2_with fail
    go_loopw [7] (fun iv wr => ∃ (k : Nat) (va vb : Int), iv = .int .i64 ((k + 1 : Nat) : Int) ∧ k ≤ n ∧ Hid ((r.take k).all numOk = true) ∧ Hid (((1 ≤ k → va = (argN r 0 : Nat)) ∧ (k < 1 → va = 0)) ∧ ((2 ≤ k → vb = (argN r 1 : Nat)) ∧ (k < 2 → vb = 0))) ∧ Hid (Own w0 (Ar b6 va vb * Q) wr)) (fun iv _ => n + 1 - (intOf iv).toNat)
    case atStart => exact ⟨0, 0, 0, rfl, Nat.zero_le _, Lib.hid rfl, Lib.hid ⟨⟨by omega, fun _ => rfl⟩, ⟨by omega, fun _ => rfl⟩⟩, HO6⟩
    case round =>
      clear HO6
      obtain ⟨k, va, vb, rfl, hk, HAL, HV, HO⟩ := hrel
      by_cases hlt : k < n
      · have hkl : k < r.length := by rw [← HN.out]; exact hlt
        have hc5 := HCELL.out _ _ _ HO.out (k + 1) r[k] (by rw [List.getElem?_cons_succ, List.getElem?_eq_getElem hkl])
        have hnum := fun w => rnumber_any (w := w) r[k] (by
          have := HWS.out r[k] (List.mem_cons_of_mem _ (List.getElem_mem hkl))
          omega)
        obtain ⟨Y, hY⟩ : ∃ Y, Y = tx r[k] := ⟨_, rfl⟩
        obtain ⟨B, hB⟩ : ∃ B, B = numOk r[k] := ⟨_, rfl⟩
        obtain ⟨V, hV_⟩ : ∃ V, V = numR r[k] := ⟨_, rfl⟩
        rw [← hY] at hc5
        simp only [← hY, ← hB, ← hV_] at hnum
        obtain ⟨g0, g1, g2, g3⟩ := HO.out.ar
        have HNUM := Lib.hid hnum; have HY := Lib.hid hY; have HB := Lib.hid hB; have HV_ := Lib.hid hV_
        clear hnum hY hB hV_
        cases B
        · have hbad := lineA_bad (c := c) HXR.out (read_num (x := x) (all_not hkl HB.out.symm))
          rw [HL.out] at hbad
          injection hbad with e1 e2
          subst e1
          have hA2 : A = ⟨#[98, 97, 100]⟩ := by rw [HA.out, e2]; rfl
          have hO := HO.out.drop
          rw [HQ.out] at hO
          have hO2 := hO.drop
          have E2 := Lib.hid e2; have HA2 := Lib.hid hA2; have HO := Lib.hid hO; have HO2 := Lib.hid hO2
          clear e2 hA2 hO hO2
          go_wp2_with fail
          refine (HNUM.out _).mono ?_
          rintro e w' ⟨rfl, rfl⟩
          go_wp2_with fail
          go_ret
          exact ⟨by rw [HA2.out]; rfl, HO2.out⟩
        · have hall := all_take hkl HAL.out HB.out.symm
          have hVa : ((V : Nat) : Int) = (argN r k : Nat) := by
            rw [HV_.out, argN_at hkl]; unfold numR; rw [if_pos HB.out.symm]
          have HALL := Lib.hid hall; have HVA := Lib.hid hVa
          clear hall hVa
          rcases (show k = 0 ∨ k = 1 by omega) with rfl | rfl
          · have HO4 := Lib.hid (HO.out.ar0 (V : Nat))
            go_wp2_with fail
            refine (HNUM.out _).mono ?_
            rintro e w' ⟨rfl, rfl⟩
            go_wp2_with fail
            go_roundw
            case rel => exact ⟨1, V, vb, by go_num, by omega, HALL, Lib.hid ⟨⟨fun _ => HVA.out, by omega⟩, ⟨by omega, fun _ => HV.out.2.2 (by omega)⟩⟩, HO4⟩
            case measure => simp [intOf]; omega
          · have HO4 := Lib.hid (HO.out.ar1 (V : Nat))
            go_wp2_with fail
            refine (HNUM.out _).mono ?_
            rintro e w' ⟨rfl, rfl⟩
            go_wp2_with fail
            go_roundw
            case rel => exact ⟨2, va, V, by go_num, by omega, HALL, Lib.hid ⟨⟨fun _ => HV.out.1.1 (by omega), by omega⟩, ⟨fun _ => HVA.out, by omega⟩⟩, HO4⟩
            case measure => simp [intOf]; omega
      · have hkn : k = n := by omega
        subst hkn
        have hall : r.all numOk = true := by
          have h1 := HAL.out
          rwa [List.take_of_length_le (by have := HN.out; omega)] at h1
        clear HAL
        obtain ⟨ia, hia⟩ : ∃ ia, ia = argN r 0 := ⟨_, rfl⟩
        obtain ⟨ib, hib⟩ : ∃ ib, ib = argN r 1 := ⟨_, rfl⟩
        have hva : va = (ia : Nat) := by
          rw [hia]
          by_cases h1 : 1 ≤ k
          · exact HV.out.1.1 h1
          · rw [HV.out.1.2 (by omega), argN_out (by have := HN.out; omega)]; rfl
        have hvb : vb = (ib : Nat) := by
          rw [hib]
          by_cases h1 : 2 ≤ k
          · exact HV.out.2.1 h1
          · rw [HV.out.2.2 (by omega), argN_out (by have := HN.out; omega)]; rfl
        subst hva
        subst hvb
        clear HV
        have hc5 : wr.cell? ⟨b, off, none⟩ = some (.string (tx x)) := HCELL.out _ _ _ HO.out 0 x rfl
        obtain ⟨X, hX⟩ : ∃ X, X = tx x := ⟨_, rfl⟩
        rw [← hX] at hc5
        have hxl : X.toList = x := by rw [hX, ByteArray.toList_eq]; exact tx_list x
        have hoK : Own w0 (RkP q c * (Ar b6 ia ib * (StSl (.slice (some ⟨b, off, none⟩) (k + 1) cap) (x :: r) * R))) wr := by
          have h1 := HO.out
          rw [HQ.out] at h1
          exact h1.perm (by ac_rfl)
        have hO9 : Own w0 (RkP q c * R) wr := by
          have h1 := HO.out.drop
          rw [HQ.out] at h1
          exact h1.drop
        have htw : twoOk r = true := by unfold twoOk; rw [hall, Bool.true_and, decide_eq_true_eq]; have := HN.out; omega
        have HALL := Lib.hid hall; have HOK := Lib.hid hoK; have HO9 := Lib.hid hO9; have HTW := Lib.hid htw
        clear hall hoK hO9 htw
        cases hw : wantsB x with
        | none =>
          have hbad := lineA_bad (c := c) HXR.out (read_none (r := r) hw)
          rw [HL.out] at hbad
          injection hbad with e1 e2
          subst e1
          have hA2 : A = ⟨#[98, 97, 100]⟩ := by rw [HA.out, e2]; rfl
          obtain ⟨n1, n2, n3, n4, n5, n6, n7, n8⟩ := wantsB_none hw
          have t0 : (X.toList == ([115, 97, 121] : List UInt8)) = false := by rw [hxl]; exact beq_eq_false_iff_ne.2 n1
          have t1 : (X.toList == ([103, 105, 118, 101] : List UInt8)) = false := by rw [hxl]; exact beq_eq_false_iff_ne.2 n2
          have t2 : (X.toList == ([100, 114, 111, 112] : List UInt8)) = false := by rw [hxl]; exact beq_eq_false_iff_ne.2 n3
          have t3 : (X.toList == ([116, 119, 105, 99, 101] : List UInt8)) = false := by rw [hxl]; exact beq_eq_false_iff_ne.2 n4
          have t4 : (X.toList == ([119, 97, 121] : List UInt8)) = false := by rw [hxl]; exact beq_eq_false_iff_ne.2 n5
          have t5 : (X.toList == ([104, 101, 97, 114, 100] : List UInt8)) = false := by rw [hxl]; exact beq_eq_false_iff_ne.2 n6
          have t6 : (X.toList == ([102, 97, 99, 101, 115] : List UInt8)) = false := by rw [hxl]; exact beq_eq_false_iff_ne.2 n7
          have t7 : (X.toList == ([99, 108, 111, 99, 107] : List UInt8)) = false := by rw [hxl]; exact beq_eq_false_iff_ne.2 n8
          have E2 := Lib.hid e2; have HA2 := Lib.hid hA2; have HW := Lib.hid hw; have N1 := Lib.hid n1; have N2 := Lib.hid n2; have N3 := Lib.hid n3; have N4 := Lib.hid n4; have N5 := Lib.hid n5; have N6 := Lib.hid n6; have N7 := Lib.hid n7; have N8 := Lib.hid n8; have HXL := Lib.hid hxl; have HX := Lib.hid hX
          clear e2 hA2 hw n1 n2 n3 n4 n5 n6 n7 n8 hxl hX
          go_wp2_with fail
          go_ret
          exact ⟨by rw [HA2.out]; rfl, HO9.out⟩
        | some m =>
          by_cases hkm : r.length ≠ m
          · have hbad := lineA_bad (c := c) HXR.out (read_len (r := r) hw hkm)
            rw [HL.out] at hbad
            injection hbad with e1 e2
            subst e1
            have hA2 : A = ⟨#[98, 97, 100]⟩ := by rw [HA.out, e2]; rfl
            have hkm2 : k ≠ m := by rw [HN.out]; exact hkm
            have hwc := wantsB_cases hw
            have E2 := Lib.hid e2; have HA2 := Lib.hid hA2; have HW := Lib.hid hw; have HX := Lib.hid hX
            clear e2 hA2 hw hX
            rcases hwc with ⟨hx1, rfl⟩ | ⟨hx1, rfl⟩ | ⟨hx1, rfl⟩ | ⟨hx1, rfl⟩ | ⟨hx1, rfl⟩ | ⟨hx1, rfl⟩ | ⟨hx1, rfl⟩ | ⟨hx1, rfl⟩
            · rw [hx1] at hxl
              have t0 : (X.toList == ([115, 97, 121] : List UInt8)) = true := by rw [hxl]; decide
              have t1 : (X.toList == ([103, 105, 118, 101] : List UInt8)) = false := by rw [hxl]; decide
              have t2 : (X.toList == ([100, 114, 111, 112] : List UInt8)) = false := by rw [hxl]; decide
              have t3 : (X.toList == ([116, 119, 105, 99, 101] : List UInt8)) = false := by rw [hxl]; decide
              have t4 : (X.toList == ([119, 97, 121] : List UInt8)) = false := by rw [hxl]; decide
              have t5 : (X.toList == ([104, 101, 97, 114, 100] : List UInt8)) = false := by rw [hxl]; decide
              have t6 : (X.toList == ([102, 97, 99, 101, 115] : List UInt8)) = false := by rw [hxl]; decide
              have t7 : (X.toList == ([99, 108, 111, 99, 107] : List UInt8)) = false := by rw [hxl]; decide
              have HXL := Lib.hid hxl; have HX1 := Lib.hid hx1
              clear hxl hx1
              go_wp2_with fail
              go_ret
              exact ⟨by rw [HA2.out]; rfl, HO9.out⟩
            · rw [hx1] at hxl
              have t0 : (X.toList == ([115, 97, 121] : List UInt8)) = false := by rw [hxl]; decide
              have t1 : (X.toList == ([103, 105, 118, 101] : List UInt8)) = true := by rw [hxl]; decide
              have t2 : (X.toList == ([100, 114, 111, 112] : List UInt8)) = false := by rw [hxl]; decide
              have t3 : (X.toList == ([116, 119, 105, 99, 101] : List UInt8)) = false := by rw [hxl]; decide
              have t4 : (X.toList == ([119, 97, 121] : List UInt8)) = false := by rw [hxl]; decide
              have t5 : (X.toList == ([104, 101, 97, 114, 100] : List UInt8)) = false := by rw [hxl]; decide
              have t6 : (X.toList == ([102, 97, 99, 101, 115] : List UInt8)) = false := by rw [hxl]; decide
              have t7 : (X.toList == ([99, 108, 111, 99, 107] : List UInt8)) = false := by rw [hxl]; decide
              have HXL := Lib.hid hxl; have HX1 := Lib.hid hx1
              clear hxl hx1
              go_wp2_with fail
              go_ret
              exact ⟨by rw [HA2.out]; rfl, HO9.out⟩
            · rw [hx1] at hxl
              have t0 : (X.toList == ([115, 97, 121] : List UInt8)) = false := by rw [hxl]; decide
              have t1 : (X.toList == ([103, 105, 118, 101] : List UInt8)) = false := by rw [hxl]; decide
              have t2 : (X.toList == ([100, 114, 111, 112] : List UInt8)) = true := by rw [hxl]; decide
              have t3 : (X.toList == ([116, 119, 105, 99, 101] : List UInt8)) = false := by rw [hxl]; decide
              have t4 : (X.toList == ([119, 97, 121] : List UInt8)) = false := by rw [hxl]; decide
              have t5 : (X.toList == ([104, 101, 97, 114, 100] : List UInt8)) = false := by rw [hxl]; decide
              have t6 : (X.toList == ([102, 97, 99, 101, 115] : List UInt8)) = false := by rw [hxl]; decide
              have t7 : (X.toList == ([99, 108, 111, 99, 107] : List UInt8)) = false := by rw [hxl]; decide
              have HXL := Lib.hid hxl; have HX1 := Lib.hid hx1
              clear hxl hx1
              go_wp2_with fail
              go_ret
              exact ⟨by rw [HA2.out]; rfl, HO9.out⟩
            · rw [hx1] at hxl
              have t0 : (X.toList == ([115, 97, 121] : List UInt8)) = false := by rw [hxl]; decide
              have t1 : (X.toList == ([103, 105, 118, 101] : List UInt8)) = false := by rw [hxl]; decide
              have t2 : (X.toList == ([100, 114, 111, 112] : List UInt8)) = false := by rw [hxl]; decide
              have t3 : (X.toList == ([116, 119, 105, 99, 101] : List UInt8)) = true := by rw [hxl]; decide
              have t4 : (X.toList == ([119, 97, 121] : List UInt8)) = false := by rw [hxl]; decide
              have t5 : (X.toList == ([104, 101, 97, 114, 100] : List UInt8)) = false := by rw [hxl]; decide
              have t6 : (X.toList == ([102, 97, 99, 101, 115] : List UInt8)) = false := by rw [hxl]; decide
              have t7 : (X.toList == ([99, 108, 111, 99, 107] : List UInt8)) = false := by rw [hxl]; decide
              have HXL := Lib.hid hxl; have HX1 := Lib.hid hx1
              clear hxl hx1
              go_wp2_with fail
              go_ret
              exact ⟨by rw [HA2.out]; rfl, HO9.out⟩
            · rw [hx1] at hxl
              have t0 : (X.toList == ([115, 97, 121] : List UInt8)) = false := by rw [hxl]; decide
              have t1 : (X.toList == ([103, 105, 118, 101] : List UInt8)) = false := by rw [hxl]; decide
              have t2 : (X.toList == ([100, 114, 111, 112] : List UInt8)) = false := by rw [hxl]; decide
              have t3 : (X.toList == ([116, 119, 105, 99, 101] : List UInt8)) = false := by rw [hxl]; decide
              have t4 : (X.toList == ([119, 97, 121] : List UInt8)) = true := by rw [hxl]; decide
              have t5 : (X.toList == ([104, 101, 97, 114, 100] : List UInt8)) = false := by rw [hxl]; decide
              have t6 : (X.toList == ([102, 97, 99, 101, 115] : List UInt8)) = false := by rw [hxl]; decide
              have t7 : (X.toList == ([99, 108, 111, 99, 107] : List UInt8)) = false := by rw [hxl]; decide
              have HXL := Lib.hid hxl; have HX1 := Lib.hid hx1
              clear hxl hx1
              go_wp2_with fail
              go_ret
              exact ⟨by rw [HA2.out]; rfl, HO9.out⟩
            · rw [hx1] at hxl
              have t0 : (X.toList == ([115, 97, 121] : List UInt8)) = false := by rw [hxl]; decide
              have t1 : (X.toList == ([103, 105, 118, 101] : List UInt8)) = false := by rw [hxl]; decide
              have t2 : (X.toList == ([100, 114, 111, 112] : List UInt8)) = false := by rw [hxl]; decide
              have t3 : (X.toList == ([116, 119, 105, 99, 101] : List UInt8)) = false := by rw [hxl]; decide
              have t4 : (X.toList == ([119, 97, 121] : List UInt8)) = false := by rw [hxl]; decide
              have t5 : (X.toList == ([104, 101, 97, 114, 100] : List UInt8)) = true := by rw [hxl]; decide
              have t6 : (X.toList == ([102, 97, 99, 101, 115] : List UInt8)) = false := by rw [hxl]; decide
              have t7 : (X.toList == ([99, 108, 111, 99, 107] : List UInt8)) = false := by rw [hxl]; decide
              have HXL := Lib.hid hxl; have HX1 := Lib.hid hx1
              clear hxl hx1
              go_wp2_with fail
              go_ret
              exact ⟨by rw [HA2.out]; rfl, HO9.out⟩
            · rw [hx1] at hxl
              have t0 : (X.toList == ([115, 97, 121] : List UInt8)) = false := by rw [hxl]; decide
              have t1 : (X.toList == ([103, 105, 118, 101] : List UInt8)) = false := by rw [hxl]; decide
              have t2 : (X.toList == ([100, 114, 111, 112] : List UInt8)) = false := by rw [hxl]; decide
              have t3 : (X.toList == ([116, 119, 105, 99, 101] : List UInt8)) = false := by rw [hxl]; decide
              have t4 : (X.toList == ([119, 97, 121] : List UInt8)) = false := by rw [hxl]; decide
              have t5 : (X.toList == ([104, 101, 97, 114, 100] : List UInt8)) = false := by rw [hxl]; decide
              have t6 : (X.toList == ([102, 97, 99, 101, 115] : List UInt8)) = true := by rw [hxl]; decide
              have t7 : (X.toList == ([99, 108, 111, 99, 107] : List UInt8)) = false := by rw [hxl]; decide
              have HXL := Lib.hid hxl; have HX1 := Lib.hid hx1
              clear hxl hx1
              go_wp2_with fail
              go_ret
              exact ⟨by rw [HA2.out]; rfl, HO9.out⟩
            · rw [hx1] at hxl
              have t0 : (X.toList == ([115, 97, 121] : List UInt8)) = false := by rw [hxl]; decide
              have t1 : (X.toList == ([103, 105, 118, 101] : List UInt8)) = false := by rw [hxl]; decide
              have t2 : (X.toList == ([100, 114, 111, 112] : List UInt8)) = false := by rw [hxl]; decide
              have t3 : (X.toList == ([116, 119, 105, 99, 101] : List UInt8)) = false := by rw [hxl]; decide
              have t4 : (X.toList == ([119, 97, 121] : List UInt8)) = false := by rw [hxl]; decide
              have t5 : (X.toList == ([104, 101, 97, 114, 100] : List UInt8)) = false := by rw [hxl]; decide
              have t6 : (X.toList == ([102, 97, 99, 101, 115] : List UInt8)) = false := by rw [hxl]; decide
              have t7 : (X.toList == ([99, 108, 111, 99, 107] : List UInt8)) = true := by rw [hxl]; decide
              have HXL := Lib.hid hxl; have HX1 := Lib.hid hx1
              clear hxl hx1
              go_wp2_with fail
              go_ret
              exact ⟨by rw [HA2.out]; rfl, HO9.out⟩
          · have hkm2 : r.length = m := by omega
            have hdo := lineA_do (c := c) HXR.out (read_yes hw HTW.out hkm2)
            rw [HL.out] at hdo
            rw [← hia, ← hib] at hdo
            have hk2 : k = m := by rw [HN.out]; exact hkm2
            subst hk2
            obtain ⟨nb, nad, ncap, hv, y1, y2, y3, y4, y5, ⟨RN, hrn, hrnput⟩, ⟨RP, hrp⟩, ⟨RE, hre, hrep⟩⟩ := HOK.out.drew.rk_reads
            have y0 := (HO.out.drew.ar).1
            have hc5d : wr.drew.cell? ⟨b, off, none⟩ = some (.string X) := hc5
            have hwc := wantsB_cases hw
            clear hkm hkm2
            have HIA := Lib.hid hia; have HIB := Lib.hid hib; have HDO := Lib.hid hdo; have HW := Lib.hid hw; have HX := Lib.hid hX; have HRN := Lib.hid hrn; have HRNPUT := Lib.hid hrnput; have HRP := Lib.hid hrp; have HRE := Lib.hid hre; have HREP := Lib.hid hrep
            clear hia hib hdo hw hX hrn hrnput hrp hre hrep
            rcases hwc with ⟨hx1, rfl⟩ | ⟨hx1, rfl⟩ | ⟨hx1, rfl⟩ | ⟨hx1, rfl⟩ | ⟨hx1, rfl⟩ | ⟨hx1, rfl⟩ | ⟨hx1, rfl⟩ | ⟨hx1, rfl⟩
            · subst hx1
              have hdr : doR c sayW ia ib = (csSay c ia ib, okW, csSayErr c ia ib) := by
                unfold doR
                rw [if_pos rfl]
              have hdo := HDO.out
              rw [hdr] at hdo
              injection hdo with e1 e2
              replace e1 := e1.symm
              subst e1
              have hA2 : A = tx (ansB (okW, csSayErr c ia ib)) := by rw [HA.out, e2]
              have t0 : (X.toList == ([115, 97, 121] : List UInt8)) = true := by rw [hxl]; decide
              have t1 : (X.toList == ([103, 105, 118, 101] : List UInt8)) = false := by rw [hxl]; decide
              have t2 : (X.toList == ([100, 114, 111, 112] : List UInt8)) = false := by rw [hxl]; decide
              have t3 : (X.toList == ([116, 119, 105, 99, 101] : List UInt8)) = false := by rw [hxl]; decide
              have t4 : (X.toList == ([119, 97, 121] : List UInt8)) = false := by rw [hxl]; decide
              have t5 : (X.toList == ([104, 101, 97, 114, 100] : List UInt8)) = false := by rw [hxl]; decide
              have t6 : (X.toList == ([102, 97, 99, 101, 115] : List UInt8)) = false := by rw [hxl]; decide
              have t7 : (X.toList == ([99, 108, 111, 99, 107] : List UInt8)) = false := by rw [hxl]; decide
              have HXL := Lib.hid hxl; have HDR := Lib.hid hdr; have E2 := Lib.hid e2; have HA2 := Lib.hid hA2
              clear hxl hdr e2 hA2
              go_upto_region 27 with fail
              refine wp_region_planH 11 [] [(true, 0), (true, 1), (true, 2), (true, 3), (true, 4), (true, 5), (true, 6), (true, 7), (true, 8), (true, 9), (true, 10)] [11] (fun wS => wS = wr.drew) (by kernel_rfl) (by kernel_rfl) (rfl) ?_
              simp only [pickH, pick, List.getElem?_cons_succ, List.getElem?_cons_zero, Option.toList, Option.map_some, List.cons_append, List.nil_append]
              repeat (refine wpPure_step ?_ rfl ?_ ?_; rotate_left; (focus (intro _; first | with_reducible rfl | (go_simp; done) | (go_simp; with_reducible rfl) | rfl)); go_simp)
              refine wpPure_nil ?_
              repeat (refine wpMix_read ?_ rfl ?_ ?_; rotate_left; (focus (intro _ hS; obtain rfl := hS; first | with_reducible rfl | (go_simp; done) | (go_simp; with_reducible rfl) | rfl)); go_simp)
              refine wpMix_nil ?_
              go_wp2_with fail
              refine NoPanic.normal ?_
              clear y0 y1 y2 y3 y4 y5
              obtain ⟨w8, hw8⟩ : ∃ w8, w8 = wr.drew := ⟨_, rfl⟩
              rw [← hw8]
              have HO8 : Hid (Own w0 (RkP q c * (Ar b6 ia ib * (StSl (.slice (some ⟨b, off, none⟩) (2 + 1) cap) (sayW :: r) * R))) w8) := Lib.hid (by rw [hw8]; exact HOK.out.drew)
              have yc : w8.cell? ⟨b, off, none⟩ = some (.string X) := by rw [hw8]; exact hc5d
              clear hw8 hc5d
              obtain ⟨RR, hRR⟩ : ∃ RR, RR = Ar b6 ia ib * (StSl (.slice (some ⟨b, off, none⟩) (2 + 1) cap) (sayW :: r) * R) := ⟨_, rfl⟩
              rw [← hRR] at HO8
              have hfin : ∀ (w : World) (c' : Cs), Own w0 (RkP q c' * RR) w → Own w0 (RkP q c' * R) w := fun w c' ho => by
                rw [hRR] at ho
                exact (ho.perm (show _ = Ar b6 ia ib * (StSl (.slice (some ⟨b, off, none⟩) (2 + 1) cap) (sayW :: r) * (RkP q c' * R)) by ac_rfl)).drop.drop
              have har : ∀ (w : World) (P : HProp), Own w0 (P * RR) w → w.cell? ⟨b6, 0, none⟩ = some (.int .i64 ia) ∧ w.cell? ⟨b6, 1, none⟩ = some (.int .i64 ib) := fun w P ho => by
                rw [hRR] at ho
                have h1 := (ho.perm (show _ = Ar b6 ia ib * (P * (StSl (.slice (some ⟨b, off, none⟩) (2 + 1) cap) (sayW :: r) * R)) by ac_rfl)).ar
                exact ⟨h1.1, h1.2.1⟩
              obtain ⟨a0, a1⟩ := har _ _ HO8.out
              have HRR := Lib.hid hRR; have HFIN := Lib.hid hfin; have HAR := Lib.hid har
              clear hRR hfin har
              go_wp2_with fail
              refine (rkSay_any q c ia ib HZ.out.i HZ.out.h60 HO8.out).mono ?_
              rintro e w9 ⟨rfl, ho⟩
              have hle := say_le c (ia : Int) (ib : Int)
              have hdn := rdone_any (csSayErr c ia ib : Nat) (by omega) ho
              have HDN := Lib.hid hdn; have HLE := Lib.hid hle
              clear hdn hle
              clear ho
              go_wp2_with fail
              refine HDN.out.mono ?_
              rintro e w10 ⟨rfl, ho⟩
              have HO9 := Lib.hid ho
              clear ho
              go_wp2_with fail
              go_ret
              exact ⟨by rw [HA2.out, ans_done HLE.out]; first | done | rfl, HFIN.out _ _ HO9.out⟩
            · subst hx1
              have hdr : doR c giveW ia ib = (csGive c ia, rowT (csGiven c ia), csGiveErr c ia) := by
                unfold doR
                rw [if_neg (by decide)]
                rw [if_pos rfl]
              have hdo := HDO.out
              rw [hdr] at hdo
              injection hdo with e1 e2
              replace e1 := e1.symm
              subst e1
              have hA2 : A = tx (ansB (rowT (csGiven c ia), csGiveErr c ia)) := by rw [HA.out, e2]
              have t0 : (X.toList == ([115, 97, 121] : List UInt8)) = false := by rw [hxl]; decide
              have t1 : (X.toList == ([103, 105, 118, 101] : List UInt8)) = true := by rw [hxl]; decide
              have t2 : (X.toList == ([100, 114, 111, 112] : List UInt8)) = false := by rw [hxl]; decide
              have t3 : (X.toList == ([116, 119, 105, 99, 101] : List UInt8)) = false := by rw [hxl]; decide
              have t4 : (X.toList == ([119, 97, 121] : List UInt8)) = false := by rw [hxl]; decide
              have t5 : (X.toList == ([104, 101, 97, 114, 100] : List UInt8)) = false := by rw [hxl]; decide
              have t6 : (X.toList == ([102, 97, 99, 101, 115] : List UInt8)) = false := by rw [hxl]; decide
              have t7 : (X.toList == ([99, 108, 111, 99, 107] : List UInt8)) = false := by rw [hxl]; decide
              have HXL := Lib.hid hxl; have HDR := Lib.hid hdr; have E2 := Lib.hid e2; have HA2 := Lib.hid hA2
              clear hxl hdr e2 hA2
              go_upto_region 27 with fail
              refine wp_region_planH 11 [] [(true, 0), (true, 1), (true, 2), (true, 3), (true, 4), (true, 5), (true, 6), (true, 7), (true, 8), (true, 9), (true, 10)] [11] (fun wS => wS = wr.drew) (by kernel_rfl) (by kernel_rfl) (rfl) ?_
              simp only [pickH, pick, List.getElem?_cons_succ, List.getElem?_cons_zero, Option.toList, Option.map_some, List.cons_append, List.nil_append]
              repeat (refine wpPure_step ?_ rfl ?_ ?_; rotate_left; (focus (intro _; first | with_reducible rfl | (go_simp; done) | (go_simp; with_reducible rfl) | rfl)); go_simp)
              refine wpPure_nil ?_
              repeat (refine wpMix_read ?_ rfl ?_ ?_; rotate_left; (focus (intro _ hS; obtain rfl := hS; first | with_reducible rfl | (go_simp; done) | (go_simp; with_reducible rfl) | rfl)); go_simp)
              refine wpMix_nil ?_
              go_wp2_with fail
              refine NoPanic.normal ?_
              clear y0 y1 y2 y3 y4 y5
              obtain ⟨w8, hw8⟩ : ∃ w8, w8 = wr.drew := ⟨_, rfl⟩
              rw [← hw8]
              have HO8 : Hid (Own w0 (RkP q c * (Ar b6 ia ib * (StSl (.slice (some ⟨b, off, none⟩) (1 + 1) cap) (giveW :: r) * R))) w8) := Lib.hid (by rw [hw8]; exact HOK.out.drew)
              have yc : w8.cell? ⟨b, off, none⟩ = some (.string X) := by rw [hw8]; exact hc5d
              clear hw8 hc5d
              obtain ⟨RR, hRR⟩ : ∃ RR, RR = Ar b6 ia ib * (StSl (.slice (some ⟨b, off, none⟩) (1 + 1) cap) (giveW :: r) * R) := ⟨_, rfl⟩
              rw [← hRR] at HO8
              have hfin : ∀ (w : World) (c' : Cs), Own w0 (RkP q c' * RR) w → Own w0 (RkP q c' * R) w := fun w c' ho => by
                rw [hRR] at ho
                exact (ho.perm (show _ = Ar b6 ia ib * (StSl (.slice (some ⟨b, off, none⟩) (1 + 1) cap) (giveW :: r) * (RkP q c' * R)) by ac_rfl)).drop.drop
              have har : ∀ (w : World) (P : HProp), Own w0 (P * RR) w → w.cell? ⟨b6, 0, none⟩ = some (.int .i64 ia) ∧ w.cell? ⟨b6, 1, none⟩ = some (.int .i64 ib) := fun w P ho => by
                rw [hRR] at ho
                have h1 := (ho.perm (show _ = Ar b6 ia ib * (P * (StSl (.slice (some ⟨b, off, none⟩) (1 + 1) cap) (giveW :: r) * R)) by ac_rfl)).ar
                exact ⟨h1.1, h1.2.1⟩
              obtain ⟨a0, a1⟩ := har _ _ HO8.out
              have HRR := Lib.hid hRR; have HFIN := Lib.hid hfin; have HAR := Lib.hid har
              clear hRR hfin har
              go_wp2_with fail
              refine (rkGive_any q c ia HZ.out.i HZ.out.h60 HO8.out).mono ?_
              rintro e w9 ⟨v9, rfl, ho⟩
              have hle := give_le c (ia : Int)
              have hsm := HZ.out.given (ia : Int)
              have hdn := rtold_any v9 (csGiven c ia) ⟨ho.rd, hsm.ints⟩ hsm.big (HZ.out.given100 _) (csGiveErr c ia : Nat) (by omega) ho
              have HDN := Lib.hid hdn; have HLE := Lib.hid hle; have HSM := Lib.hid hsm
              clear hdn hle hsm
              clear ho
              go_wp2_with fail
              refine HDN.out.mono ?_
              rintro e w10 ⟨rfl, ho⟩
              have HO9 := Lib.hid ho.drop
              clear ho
              go_wp2_with fail
              go_ret
              exact ⟨by rw [HA2.out, ans_told HLE.out]; first | done | rfl, HFIN.out _ _ HO9.out⟩
            · subst hx1
              have hdr : doR c dropW ia ib = (csDrop c ia, okW, ntDropErr c.net ia) := by
                unfold doR
                rw [if_neg (by decide)]
                rw [if_neg (by decide)]
                rw [if_pos rfl]
              have hdo := HDO.out
              rw [hdr] at hdo
              injection hdo with e1 e2
              replace e1 := e1.symm
              subst e1
              have hA2 : A = tx (ansB (okW, ntDropErr c.net ia)) := by rw [HA.out, e2]
              have t0 : (X.toList == ([115, 97, 121] : List UInt8)) = false := by rw [hxl]; decide
              have t1 : (X.toList == ([103, 105, 118, 101] : List UInt8)) = false := by rw [hxl]; decide
              have t2 : (X.toList == ([100, 114, 111, 112] : List UInt8)) = true := by rw [hxl]; decide
              have t3 : (X.toList == ([116, 119, 105, 99, 101] : List UInt8)) = false := by rw [hxl]; decide
              have t4 : (X.toList == ([119, 97, 121] : List UInt8)) = false := by rw [hxl]; decide
              have t5 : (X.toList == ([104, 101, 97, 114, 100] : List UInt8)) = false := by rw [hxl]; decide
              have t6 : (X.toList == ([102, 97, 99, 101, 115] : List UInt8)) = false := by rw [hxl]; decide
              have t7 : (X.toList == ([99, 108, 111, 99, 107] : List UInt8)) = false := by rw [hxl]; decide
              have HXL := Lib.hid hxl; have HDR := Lib.hid hdr; have E2 := Lib.hid e2; have HA2 := Lib.hid hA2
              clear hxl hdr e2 hA2
              go_upto_region 27 with fail
              refine wp_region_planH 11 [] [(true, 0), (true, 1), (true, 2), (true, 3), (true, 4), (true, 5), (true, 6), (true, 7), (true, 8), (true, 9), (true, 10)] [11] (fun wS => wS = wr.drew) (by kernel_rfl) (by kernel_rfl) (rfl) ?_
              simp only [pickH, pick, List.getElem?_cons_succ, List.getElem?_cons_zero, Option.toList, Option.map_some, List.cons_append, List.nil_append]
              repeat (refine wpPure_step ?_ rfl ?_ ?_; rotate_left; (focus (intro _; first | with_reducible rfl | (go_simp; done) | (go_simp; with_reducible rfl) | rfl)); go_simp)
              refine wpPure_nil ?_
              repeat (refine wpMix_read ?_ rfl ?_ ?_; rotate_left; (focus (intro _ hS; obtain rfl := hS; first | with_reducible rfl | (go_simp; done) | (go_simp; with_reducible rfl) | rfl)); go_simp)
              refine wpMix_nil ?_
              go_wp2_with fail
              refine NoPanic.normal ?_
              clear y0 y1 y2 y3 y4 y5
              obtain ⟨w8, hw8⟩ : ∃ w8, w8 = wr.drew := ⟨_, rfl⟩
              rw [← hw8]
              have HO8 : Hid (Own w0 (RkP q c * (Ar b6 ia ib * (StSl (.slice (some ⟨b, off, none⟩) (1 + 1) cap) (dropW :: r) * R))) w8) := Lib.hid (by rw [hw8]; exact HOK.out.drew)
              have yc : w8.cell? ⟨b, off, none⟩ = some (.string X) := by rw [hw8]; exact hc5d
              clear hw8 hc5d
              obtain ⟨RR, hRR⟩ : ∃ RR, RR = Ar b6 ia ib * (StSl (.slice (some ⟨b, off, none⟩) (1 + 1) cap) (dropW :: r) * R) := ⟨_, rfl⟩
              rw [← hRR] at HO8
              have hfin : ∀ (w : World) (c' : Cs), Own w0 (RkP q c' * RR) w → Own w0 (RkP q c' * R) w := fun w c' ho => by
                rw [hRR] at ho
                exact (ho.perm (show _ = Ar b6 ia ib * (StSl (.slice (some ⟨b, off, none⟩) (1 + 1) cap) (dropW :: r) * (RkP q c' * R)) by ac_rfl)).drop.drop
              have har : ∀ (w : World) (P : HProp), Own w0 (P * RR) w → w.cell? ⟨b6, 0, none⟩ = some (.int .i64 ia) ∧ w.cell? ⟨b6, 1, none⟩ = some (.int .i64 ib) := fun w P ho => by
                rw [hRR] at ho
                have h1 := (ho.perm (show _ = Ar b6 ia ib * (P * (StSl (.slice (some ⟨b, off, none⟩) (1 + 1) cap) (dropW :: r) * R)) by ac_rfl)).ar
                exact ⟨h1.1, h1.2.1⟩
              obtain ⟨a0, a1⟩ := har _ _ HO8.out
              have HRR := Lib.hid hRR; have HFIN := Lib.hid hfin; have HAR := Lib.hid har
              clear hRR hfin har
              obtain ⟨M, hM⟩ : ∃ M, M = c.net.all.length := ⟨_, rfl⟩
              rw [← hM]
              by_cases hin : ia < M
              rotate_left
              · have he : ntDropErr c.net (ia : Int) = 1 := by unfold ntDropErr; rw [if_pos (by unfold ntHas inR; rw [← hM]; simp; omega)]
                have hst : csDrop c (ia : Int) = c := by unfold csDrop ntDrop; rw [if_neg (by rw [he]; decide)]
                have hnm := rname_any 1 (by omega) HO8.out
                have HE := Lib.hid he; have HST := Lib.hid hst; have HNM := Lib.hid hnm; have HM := Lib.hid hM
                clear he hst hnm hM
                go_wp2_with fail
                refine HNM.out.mono ?_
                rintro e w9 ⟨rfl, ho⟩
                have HO9 := Lib.hid ho
                clear ho
                go_wp2_with fail
                go_ret
                exact ⟨by rw [HA2.out, HE.out]; first | done | rfl, by rw [HST.out]; exact HFIN.out _ _ HO9.out⟩
              obtain ⟨nb, nad, ncap, hv, y1, y2, y3, y4, y5, ⟨RN, hrn, hrnput⟩, ⟨RP, hrp⟩, _⟩ := HO8.out.drew.rk_reads
              rw [← hM] at y2 y3 hrp
              have he : ntDropErr c.net (ia : Int) = 0 := by unfold ntDropErr; rw [if_neg (by unfold ntHas inR; rw [← hM]; simp; omega)]
              have hst : ntDrop c.net (ia : Int) = ntOut c.net (ia : Int) := by unfold ntDrop; rw [if_pos he]
              have hout := rnOut_any nb c.net ia (by omega) HZ.out.i.net hrn
              have y0 := (HAR.out _ _ HO8.out.drew).1
              have a0 := y0
              have HE := Lib.hid he; have HST := Lib.hid hst; have HOUT := Lib.hid hout; have HM := Lib.hid hM; have HRN := Lib.hid hrn; have HRNPUT := Lib.hid hrnput; have HRP := Lib.hid hrp
              clear he hst hout hM hrn hrnput hrp
              go_upto_region 36 with fail
              refine wp_region_planH 6 [] [(true, 0), (true, 1), (true, 2), (true, 3), (true, 4), (true, 5)] [6] (fun wS => wS = w8.drew) (by kernel_rfl) (by kernel_rfl) (rfl) ?_
              simp only [pickH, pick, List.getElem?_cons_succ, List.getElem?_cons_zero, Option.toList, Option.map_some, List.cons_append, List.nil_append]
              repeat (refine wpPure_step ?_ rfl ?_ ?_; rotate_left; (focus (intro _; first | with_reducible rfl | (go_simp; done) | (go_simp; with_reducible rfl) | rfl)); go_simp)
              refine wpPure_nil ?_
              repeat (refine wpMix_read ?_ rfl ?_ ?_; rotate_left; (focus (intro _ hS; obtain rfl := hS; first | with_reducible rfl | (go_simp; done) | (go_simp; with_reducible rfl) | rfl)); go_simp)
              refine wpMix_nil ?_
              go_wp2_with fail
              refine HOUT.out.mono ?_
              rintro e w9 ⟨rfl, ho⟩
              have HO9 := Lib.hid (HRNPUT.out _ _ ho)
              clear ho
              go_wp2_with fail
              refine NoPanic.normal ?_
              go_wp2_with fail
              go_ret
              exact ⟨by rw [HA2.out, HE.out]; first | done | rfl, HFIN.out _ _ (by show Own w0 (RkP q { c with net := ntDrop c.net ia } * RR) _; rw [HST.out]; exact HO9.out)⟩
            · subst hx1
              have hdr : doR c twiceW ia ib = (csTwice c ia, okW, ntTwiceErr c.net ia) := by
                unfold doR
                rw [if_neg (by decide)]
                rw [if_neg (by decide)]
                rw [if_neg (by decide)]
                rw [if_pos rfl]
              have hdo := HDO.out
              rw [hdr] at hdo
              injection hdo with e1 e2
              replace e1 := e1.symm
              subst e1
              have hA2 : A = tx (ansB (okW, ntTwiceErr c.net ia)) := by rw [HA.out, e2]
              have t0 : (X.toList == ([115, 97, 121] : List UInt8)) = false := by rw [hxl]; decide
              have t1 : (X.toList == ([103, 105, 118, 101] : List UInt8)) = false := by rw [hxl]; decide
              have t2 : (X.toList == ([100, 114, 111, 112] : List UInt8)) = false := by rw [hxl]; decide
              have t3 : (X.toList == ([116, 119, 105, 99, 101] : List UInt8)) = true := by rw [hxl]; decide
              have t4 : (X.toList == ([119, 97, 121] : List UInt8)) = false := by rw [hxl]; decide
              have t5 : (X.toList == ([104, 101, 97, 114, 100] : List UInt8)) = false := by rw [hxl]; decide
              have t6 : (X.toList == ([102, 97, 99, 101, 115] : List UInt8)) = false := by rw [hxl]; decide
              have t7 : (X.toList == ([99, 108, 111, 99, 107] : List UInt8)) = false := by rw [hxl]; decide
              have HXL := Lib.hid hxl; have HDR := Lib.hid hdr; have E2 := Lib.hid e2; have HA2 := Lib.hid hA2
              clear hxl hdr e2 hA2
              go_upto_region 27 with fail
              refine wp_region_planH 11 [] [(true, 0), (true, 1), (true, 2), (true, 3), (true, 4), (true, 5), (true, 6), (true, 7), (true, 8), (true, 9), (true, 10)] [11] (fun wS => wS = wr.drew) (by kernel_rfl) (by kernel_rfl) (rfl) ?_
              simp only [pickH, pick, List.getElem?_cons_succ, List.getElem?_cons_zero, Option.toList, Option.map_some, List.cons_append, List.nil_append]
              repeat (refine wpPure_step ?_ rfl ?_ ?_; rotate_left; (focus (intro _; first | with_reducible rfl | (go_simp; done) | (go_simp; with_reducible rfl) | rfl)); go_simp)
              refine wpPure_nil ?_
              repeat (refine wpMix_read ?_ rfl ?_ ?_; rotate_left; (focus (intro _ hS; obtain rfl := hS; first | with_reducible rfl | (go_simp; done) | (go_simp; with_reducible rfl) | rfl)); go_simp)
              refine wpMix_nil ?_
              go_wp2_with fail
              refine NoPanic.normal ?_
              clear y0 y1 y2 y3 y4 y5
              obtain ⟨w8, hw8⟩ : ∃ w8, w8 = wr.drew := ⟨_, rfl⟩
              rw [← hw8]
              have HO8 : Hid (Own w0 (RkP q c * (Ar b6 ia ib * (StSl (.slice (some ⟨b, off, none⟩) (1 + 1) cap) (twiceW :: r) * R))) w8) := Lib.hid (by rw [hw8]; exact HOK.out.drew)
              have yc : w8.cell? ⟨b, off, none⟩ = some (.string X) := by rw [hw8]; exact hc5d
              clear hw8 hc5d
              obtain ⟨RR, hRR⟩ : ∃ RR, RR = Ar b6 ia ib * (StSl (.slice (some ⟨b, off, none⟩) (1 + 1) cap) (twiceW :: r) * R) := ⟨_, rfl⟩
              rw [← hRR] at HO8
              have hfin : ∀ (w : World) (c' : Cs), Own w0 (RkP q c' * RR) w → Own w0 (RkP q c' * R) w := fun w c' ho => by
                rw [hRR] at ho
                exact (ho.perm (show _ = Ar b6 ia ib * (StSl (.slice (some ⟨b, off, none⟩) (1 + 1) cap) (twiceW :: r) * (RkP q c' * R)) by ac_rfl)).drop.drop
              have har : ∀ (w : World) (P : HProp), Own w0 (P * RR) w → w.cell? ⟨b6, 0, none⟩ = some (.int .i64 ia) ∧ w.cell? ⟨b6, 1, none⟩ = some (.int .i64 ib) := fun w P ho => by
                rw [hRR] at ho
                have h1 := (ho.perm (show _ = Ar b6 ia ib * (P * (StSl (.slice (some ⟨b, off, none⟩) (1 + 1) cap) (twiceW :: r) * R)) by ac_rfl)).ar
                exact ⟨h1.1, h1.2.1⟩
              obtain ⟨a0, a1⟩ := har _ _ HO8.out
              have HRR := Lib.hid hRR; have HFIN := Lib.hid hfin; have HAR := Lib.hid har
              clear hRR hfin har
              obtain ⟨M, hM⟩ : ∃ M, M = c.net.all.length := ⟨_, rfl⟩
              rw [← hM]
              by_cases hin : ia < M
              rotate_left
              · have he : ntTwiceErr c.net (ia : Int) = 1 := by unfold ntTwiceErr; rw [if_pos (by unfold ntHas inR; rw [← hM]; simp; omega)]
                have hst : csTwice c (ia : Int) = c := by unfold csTwice ntTwice; rw [if_neg (by rw [he]; decide)]
                have hnm := rname_any 1 (by omega) HO8.out
                have HE := Lib.hid he; have HST := Lib.hid hst; have HNM := Lib.hid hnm; have HM := Lib.hid hM
                clear he hst hnm hM
                go_wp2_with fail
                refine HNM.out.mono ?_
                rintro e w9 ⟨rfl, ho⟩
                have HO9 := Lib.hid ho
                clear ho
                go_wp2_with fail
                go_ret
                exact ⟨by rw [HA2.out, HE.out]; first | done | rfl, by rw [HST.out]; exact HFIN.out _ _ HO9.out⟩
              obtain ⟨nb, nad, ncap, hv, y1, y2, y3, y4, y5, ⟨RN, hrn, hrnput⟩, ⟨RP, hrp⟩, _⟩ := HO8.out.drew.rk_reads
              rw [← hM] at y2 y3 hrp
              have he : ntTwiceErr c.net (ia : Int) = ntErr c.net (ntAt c.net ia) := by unfold ntTwiceErr; rw [if_neg (by unfold ntHas inR; rw [← hM]; simp; omega)]
              have hst : ntTwice c.net (ia : Int) = ntSend c.net (ntAt c.net ia) := by
                unfold ntTwice
                rw [he]
                split
                · rfl
                · rename_i h0; unfold ntSend; rw [if_neg h0]
              have hle := twice_le c (ia : Int)
              have hrdp : ReadsE w0 (PkSl (.slice nad M ncap) c.net.all * RP) (.slice nad M ncap) c.net.all := PkSl_reads HZ.out.i.net.good
              obtain ⟨aa, eb, eo, es, ea, hea, hcs, _⟩ := hrdp.at hrp ia (by omega)
              subst ea
              obtain ⟨p0, p1, p2⟩ := hcs _ hrp
              have hev : evAt c.net.all ia = ntAt c.net (ia : Int) := by unfold evAt ntAt; rw [Int.toNat_natCast]
              rw [hev] at p0 p1 p2
              obtain ⟨g, hg⟩ : ∃ g, g = ntAt c.net (ia : Int) := ⟨_, rfl⟩
              rw [← hg] at p0 p1 p2 he hst
              have hsd := rnSend_any nb c.net g HZ.out.i.net hrn
              have a0 := (HAR.out _ _ HO8.out.drew).1
              have HE := Lib.hid he; have HST := Lib.hid hst; have HSD := Lib.hid hsd; have HM := Lib.hid hM; have HRN := Lib.hid hrn; have HRNPUT := Lib.hid hrnput; have HRP := Lib.hid hrp; have HRDP := Lib.hid hrdp; have HEV := Lib.hid hev; have HG := Lib.hid hg; have HLE := Lib.hid hle
              clear he hst hsd hM hrn hrnput hrp hrdp hev hg hle
              clear hcs
              go_upto_region 41 with fail
              refine wp_region_planH 15 [] [(true, 0), (true, 1), (true, 2), (true, 3), (true, 4), (true, 5), (true, 6), (true, 7), (true, 8), (true, 9), (true, 10), (true, 11), (true, 12), (true, 13), (true, 14)] [15, 16, 17] (fun wS => wS = w8.drew) (by kernel_rfl) (by kernel_rfl) (rfl) ?_
              simp only [pickH, pick, List.getElem?_cons_succ, List.getElem?_cons_zero, Option.toList, Option.map_some, List.cons_append, List.nil_append]
              repeat (refine wpPure_step ?_ rfl ?_ ?_; rotate_left; (focus (intro _; first | with_reducible rfl | (go_simp; done) | (go_simp; with_reducible rfl) | rfl)); go_simp)
              refine wpPure_nil ?_
              repeat (refine wpMix_read ?_ rfl ?_ ?_; rotate_left; (focus (intro _ hS; obtain rfl := hS; first | with_reducible rfl | (go_simp; done) | (go_simp; with_reducible rfl) | rfl)); go_simp)
              refine wpMix_nil ?_
              go_wp2_with fail
              refine HSD.out.mono ?_
              rintro e w9 ⟨rfl, ho⟩
              have HO9 := Lib.hid (HRNPUT.out _ _ ho)
              clear ho
              have hdn := rdone_any (ntErr c.net g : Nat) (by rw [← HE.out]; have := HLE.out; omega) HO9.out
              have HDN := Lib.hid hdn
              clear hdn
              go_wp2_with fail
              refine HDN.out.mono ?_
              rintro e w10 ⟨rfl, ho⟩
              have HO10 := Lib.hid ho
              clear ho
              go_wp2_with fail
              refine NoPanic.normal ?_
              go_wp2_with fail
              go_ret
              exact ⟨by rw [HA2.out, ans_done HLE.out, HE.out]; first | done | rfl, HFIN.out _ _ (by show Own w0 (RkP q { c with net := ntTwice c.net ia } * RR) _; rw [HST.out]; exact HO10.out)⟩
            · subst hx1
              have hdr : doR c wayW ia ib = (c, wayT c.net.all, 0) := by
                unfold doR
                rw [if_neg (by decide)]
                rw [if_neg (by decide)]
                rw [if_neg (by decide)]
                rw [if_neg (by decide)]
                rw [if_pos rfl]
              have hdo := HDO.out
              rw [hdr] at hdo
              injection hdo with e1 e2
              replace e1 := e1.symm
              subst e1
              have hA2 : A = tx (ansB (wayT c.net.all, 0)) := by rw [HA.out, e2]
              have t0 : (X.toList == ([115, 97, 121] : List UInt8)) = false := by rw [hxl]; decide
              have t1 : (X.toList == ([103, 105, 118, 101] : List UInt8)) = false := by rw [hxl]; decide
              have t2 : (X.toList == ([100, 114, 111, 112] : List UInt8)) = false := by rw [hxl]; decide
              have t3 : (X.toList == ([116, 119, 105, 99, 101] : List UInt8)) = false := by rw [hxl]; decide
              have t4 : (X.toList == ([119, 97, 121] : List UInt8)) = true := by rw [hxl]; decide
              have t5 : (X.toList == ([104, 101, 97, 114, 100] : List UInt8)) = false := by rw [hxl]; decide
              have t6 : (X.toList == ([102, 97, 99, 101, 115] : List UInt8)) = false := by rw [hxl]; decide
              have t7 : (X.toList == ([99, 108, 111, 99, 107] : List UInt8)) = false := by rw [hxl]; decide
              have HXL := Lib.hid hxl; have HDR := Lib.hid hdr; have E2 := Lib.hid e2; have HA2 := Lib.hid hA2
              clear hxl hdr e2 hA2
              go_upto_region 27 with fail
              refine wp_region_planH 11 [] [(true, 0), (true, 1), (true, 2), (true, 3), (true, 4), (true, 5), (true, 6), (true, 7), (true, 8), (true, 9), (true, 10)] [11] (fun wS => wS = wr.drew) (by kernel_rfl) (by kernel_rfl) (rfl) ?_
              simp only [pickH, pick, List.getElem?_cons_succ, List.getElem?_cons_zero, Option.toList, Option.map_some, List.cons_append, List.nil_append]
              repeat (refine wpPure_step ?_ rfl ?_ ?_; rotate_left; (focus (intro _; first | with_reducible rfl | (go_simp; done) | (go_simp; with_reducible rfl) | rfl)); go_simp)
              refine wpPure_nil ?_
              repeat (refine wpMix_read ?_ rfl ?_ ?_; rotate_left; (focus (intro _ hS; obtain rfl := hS; first | with_reducible rfl | (go_simp; done) | (go_simp; with_reducible rfl) | rfl)); go_simp)
              refine wpMix_nil ?_
              go_wp2_with fail
              refine NoPanic.normal ?_
              clear y0 y1 y2 y3 y4 y5
              obtain ⟨w8, hw8⟩ : ∃ w8, w8 = wr.drew := ⟨_, rfl⟩
              rw [← hw8]
              have HO8 : Hid (Own w0 (RkP q c * (Ar b6 ia ib * (StSl (.slice (some ⟨b, off, none⟩) (0 + 1) cap) (wayW :: r) * R))) w8) := Lib.hid (by rw [hw8]; exact HOK.out.drew)
              have yc : w8.cell? ⟨b, off, none⟩ = some (.string X) := by rw [hw8]; exact hc5d
              clear hw8 hc5d
              obtain ⟨RR, hRR⟩ : ∃ RR, RR = Ar b6 ia ib * (StSl (.slice (some ⟨b, off, none⟩) (0 + 1) cap) (wayW :: r) * R) := ⟨_, rfl⟩
              rw [← hRR] at HO8
              have hfin : ∀ (w : World) (c' : Cs), Own w0 (RkP q c' * RR) w → Own w0 (RkP q c' * R) w := fun w c' ho => by
                rw [hRR] at ho
                exact (ho.perm (show _ = Ar b6 ia ib * (StSl (.slice (some ⟨b, off, none⟩) (0 + 1) cap) (wayW :: r) * (RkP q c' * R)) by ac_rfl)).drop.drop
              have har : ∀ (w : World) (P : HProp), Own w0 (P * RR) w → w.cell? ⟨b6, 0, none⟩ = some (.int .i64 ia) ∧ w.cell? ⟨b6, 1, none⟩ = some (.int .i64 ib) := fun w P ho => by
                rw [hRR] at ho
                have h1 := (ho.perm (show _ = Ar b6 ia ib * (P * (StSl (.slice (some ⟨b, off, none⟩) (0 + 1) cap) (wayW :: r) * R)) by ac_rfl)).ar
                exact ⟨h1.1, h1.2.1⟩
              obtain ⟨a0, a1⟩ := har _ _ HO8.out
              have HRR := Lib.hid hRR; have HFIN := Lib.hid hfin; have HAR := Lib.hid har
              clear hRR hfin har
              obtain ⟨nb, nad, ncap, hv, y1, y2, y3, y4, y5, _, ⟨RP, hrp⟩, _⟩ := HO8.out.rk_reads
              have hevs : Evs w8 (.slice nad c.net.all.length ncap) c.net.all := PkSl_reads HZ.out.i.net.good _ hrp
              have hwy := rway_any _ c.net.all hevs (fun p hp => by
                obtain ⟨u1, u2, u3, _⟩ := pkErr0 (HZ.out.i.net.ok p hp)
                simp [isMember] at u1 u2
                simp [isWord] at u3
                unfold pkSmall
                omega) (by have := HZ.out.i.net.len; omega)
              obtain ⟨M, hM⟩ : ∃ M, M = c.net.all.length := ⟨_, rfl⟩
              rw [← hM] at y2 y3 hwy
              have HWY := Lib.hid hwy; have HM := Lib.hid hM; have HEVS := Lib.hid hevs; have HRP := Lib.hid hrp
              clear hwy hM hevs hrp
              go_wp2_with fail
              refine HWY.out.mono ?_
              rintro e w9 ⟨rfl, rfl⟩
              go_wp2_with fail
              go_ret
              exact ⟨by rw [HA2.out, ans_zero]; first | done | rfl, HFIN.out _ _ HO8.out⟩
            · subst hx1
              have hdr : doR c heardW ia ib = (c, rowT (heardE c.hist ia), heardErr c.hist ia) := by
                unfold doR
                rw [if_neg (by decide)]
                rw [if_neg (by decide)]
                rw [if_neg (by decide)]
                rw [if_neg (by decide)]
                rw [if_neg (by decide)]
                rw [if_pos rfl]
              have hdo := HDO.out
              rw [hdr] at hdo
              injection hdo with e1 e2
              replace e1 := e1.symm
              subst e1
              have hA2 : A = tx (ansB (rowT (heardE c.hist ia), heardErr c.hist ia)) := by rw [HA.out, e2]
              have t0 : (X.toList == ([115, 97, 121] : List UInt8)) = false := by rw [hxl]; decide
              have t1 : (X.toList == ([103, 105, 118, 101] : List UInt8)) = false := by rw [hxl]; decide
              have t2 : (X.toList == ([100, 114, 111, 112] : List UInt8)) = false := by rw [hxl]; decide
              have t3 : (X.toList == ([116, 119, 105, 99, 101] : List UInt8)) = false := by rw [hxl]; decide
              have t4 : (X.toList == ([119, 97, 121] : List UInt8)) = false := by rw [hxl]; decide
              have t5 : (X.toList == ([104, 101, 97, 114, 100] : List UInt8)) = true := by rw [hxl]; decide
              have t6 : (X.toList == ([102, 97, 99, 101, 115] : List UInt8)) = false := by rw [hxl]; decide
              have t7 : (X.toList == ([99, 108, 111, 99, 107] : List UInt8)) = false := by rw [hxl]; decide
              have HXL := Lib.hid hxl; have HDR := Lib.hid hdr; have E2 := Lib.hid e2; have HA2 := Lib.hid hA2
              clear hxl hdr e2 hA2
              go_upto_region 27 with fail
              refine wp_region_planH 11 [] [(true, 0), (true, 1), (true, 2), (true, 3), (true, 4), (true, 5), (true, 6), (true, 7), (true, 8), (true, 9), (true, 10)] [11] (fun wS => wS = wr.drew) (by kernel_rfl) (by kernel_rfl) (rfl) ?_
              simp only [pickH, pick, List.getElem?_cons_succ, List.getElem?_cons_zero, Option.toList, Option.map_some, List.cons_append, List.nil_append]
              repeat (refine wpPure_step ?_ rfl ?_ ?_; rotate_left; (focus (intro _; first | with_reducible rfl | (go_simp; done) | (go_simp; with_reducible rfl) | rfl)); go_simp)
              refine wpPure_nil ?_
              repeat (refine wpMix_read ?_ rfl ?_ ?_; rotate_left; (focus (intro _ hS; obtain rfl := hS; first | with_reducible rfl | (go_simp; done) | (go_simp; with_reducible rfl) | rfl)); go_simp)
              refine wpMix_nil ?_
              go_wp2_with fail
              refine NoPanic.normal ?_
              clear y0 y1 y2 y3 y4 y5
              obtain ⟨w8, hw8⟩ : ∃ w8, w8 = wr.drew := ⟨_, rfl⟩
              rw [← hw8]
              have HO8 : Hid (Own w0 (RkP q c * (Ar b6 ia ib * (StSl (.slice (some ⟨b, off, none⟩) (1 + 1) cap) (heardW :: r) * R))) w8) := Lib.hid (by rw [hw8]; exact HOK.out.drew)
              have yc : w8.cell? ⟨b, off, none⟩ = some (.string X) := by rw [hw8]; exact hc5d
              clear hw8 hc5d
              obtain ⟨RR, hRR⟩ : ∃ RR, RR = Ar b6 ia ib * (StSl (.slice (some ⟨b, off, none⟩) (1 + 1) cap) (heardW :: r) * R) := ⟨_, rfl⟩
              rw [← hRR] at HO8
              have hfin : ∀ (w : World) (c' : Cs), Own w0 (RkP q c' * RR) w → Own w0 (RkP q c' * R) w := fun w c' ho => by
                rw [hRR] at ho
                exact (ho.perm (show _ = Ar b6 ia ib * (StSl (.slice (some ⟨b, off, none⟩) (1 + 1) cap) (heardW :: r) * (RkP q c' * R)) by ac_rfl)).drop.drop
              have har : ∀ (w : World) (P : HProp), Own w0 (P * RR) w → w.cell? ⟨b6, 0, none⟩ = some (.int .i64 ia) ∧ w.cell? ⟨b6, 1, none⟩ = some (.int .i64 ib) := fun w P ho => by
                rw [hRR] at ho
                have h1 := (ho.perm (show _ = Ar b6 ia ib * (P * (StSl (.slice (some ⟨b, off, none⟩) (1 + 1) cap) (heardW :: r) * R)) by ac_rfl)).ar
                exact ⟨h1.1, h1.2.1⟩
              obtain ⟨a0, a1⟩ := har _ _ HO8.out
              have HRR := Lib.hid hRR; have HFIN := Lib.hid hfin; have HAR := Lib.hid har
              clear hRR hfin har
              by_cases hin : 4 < ia
              · have he : heardErr c.hist (ia : Int) = 1 := by unfold heardErr; rw [if_neg (by rw [HZ.out.r0]; simp), if_pos (by unfold isMember; simp; omega)]
                have hnm := rname_any 1 (by omega) HO8.out
                have HE := Lib.hid he; have HNM := Lib.hid hnm
                clear he hnm
                go_wp2_with fail
                refine HNM.out.mono ?_
                rintro e w9 ⟨rfl, ho⟩
                have HO9 := Lib.hid ho
                clear ho
                go_wp2_with fail
                go_ret
                exact ⟨by rw [HA2.out, HE.out]; first | done | rfl, HFIN.out _ _ HO9.out⟩
              have he : heardErr c.hist (ia : Int) = 0 := by unfold heardErr; rw [if_neg (by rw [HZ.out.r0]; simp), if_neg (by unfold isMember; simp; omega)]
              have hel : heardE c.hist (ia : Int) = heardL c.hist ia := by unfold heardE; rw [if_pos he]
              have hsm := HZ.out.heardS (ia : Int)
              rw [hel] at hsm
              obtain ⟨nb, nad, ncap, hv, y1, y2, y3, y4, y5, _, _, ⟨RE, hre, hrep⟩⟩ := HO8.out.drew.rk_reads
              have hrd : ReadsE w0 (EvSl hv c.hist * RE) hv c.hist := EvSl_reads HZ.out.i.hist
              have hhd := refHeard_any hv c.hist (ia : Int) hre hrd HZ.out.len
              have a0 := (HAR.out _ _ HO8.out.drew).1
              have hll : (heardL c.hist ia).length ≤ 100 := by
                unfold heardL
                rw [List.length_map]
                have := List.length_filter_le (heardB ia) c.hist
                have := HZ.out.len
                omega
              have HE := Lib.hid he; have HEL := Lib.hid hel; have HSM := Lib.hid hsm; have HRE := Lib.hid hre; have HREP := Lib.hid hrep; have HRD := Lib.hid hrd; have HHD := Lib.hid hhd; have HLL := Lib.hid hll
              clear he hel hsm hre hrep hrd hhd hll
              go_upto_region 45 with fail
              refine wp_region_planH 6 [] [(true, 0), (true, 1), (true, 2), (true, 3), (true, 4), (true, 5)] [6, 7, 8] (fun wS => wS = w8.drew) (by kernel_rfl) (by kernel_rfl) (rfl) ?_
              simp only [pickH, pick, List.getElem?_cons_succ, List.getElem?_cons_zero, Option.toList, Option.map_some, List.cons_append, List.nil_append]
              repeat (refine wpPure_step ?_ rfl ?_ ?_; rotate_left; (focus (intro _; first | with_reducible rfl | (go_simp; done) | (go_simp; with_reducible rfl) | rfl)); go_simp)
              refine wpPure_nil ?_
              repeat (refine wpMix_read ?_ rfl ?_ ?_; rotate_left; (focus (intro _ hS; obtain rfl := hS; first | with_reducible rfl | (go_simp; done) | (go_simp; with_reducible rfl) | rfl)); go_simp)
              refine wpMix_nil ?_
              go_wp2_with fail
              refine HHD.out.mono ?_
              rintro e w9 ⟨v9, rfl, ho⟩
              have hrw := rrow_any (w := w9) v9 (heardL c.hist ia) ⟨ho.rd, HSM.out.ints⟩ HSM.out.big HLL.out
              have HO9 := Lib.hid (HREP.out _ ho.drop)
              clear ho
              have HRW := Lib.hid hrw
              clear hrw
              go_wp2_with fail
              refine HRW.out.mono ?_
              rintro e w10 ⟨rfl, rfl⟩
              go_wp2_with fail
              refine NoPanic.normal ?_
              go_wp2_with fail
              go_ret
              exact ⟨by rw [HA2.out, HE.out, ans_zero, HEL.out]; first | done | rfl, HFIN.out _ _ HO9.out⟩
            · subst hx1
              have hdr : doR c facesW ia ib = (c, faB (facesF c.hist) (facesC c.hist) (facesT c.hist), facesErr c.hist) := by
                unfold doR
                rw [if_neg (by decide)]
                rw [if_neg (by decide)]
                rw [if_neg (by decide)]
                rw [if_neg (by decide)]
                rw [if_neg (by decide)]
                rw [if_neg (by decide)]
                rw [if_pos rfl]
              have hdo := HDO.out
              rw [hdr] at hdo
              injection hdo with e1 e2
              replace e1 := e1.symm
              subst e1
              have hA2 : A = tx (ansB (faB (facesF c.hist) (facesC c.hist) (facesT c.hist), facesErr c.hist)) := by rw [HA.out, e2]
              have t0 : (X.toList == ([115, 97, 121] : List UInt8)) = false := by rw [hxl]; decide
              have t1 : (X.toList == ([103, 105, 118, 101] : List UInt8)) = false := by rw [hxl]; decide
              have t2 : (X.toList == ([100, 114, 111, 112] : List UInt8)) = false := by rw [hxl]; decide
              have t3 : (X.toList == ([116, 119, 105, 99, 101] : List UInt8)) = false := by rw [hxl]; decide
              have t4 : (X.toList == ([119, 97, 121] : List UInt8)) = false := by rw [hxl]; decide
              have t5 : (X.toList == ([104, 101, 97, 114, 100] : List UInt8)) = false := by rw [hxl]; decide
              have t6 : (X.toList == ([102, 97, 99, 101, 115] : List UInt8)) = true := by rw [hxl]; decide
              have t7 : (X.toList == ([99, 108, 111, 99, 107] : List UInt8)) = false := by rw [hxl]; decide
              have HXL := Lib.hid hxl; have HDR := Lib.hid hdr; have E2 := Lib.hid e2; have HA2 := Lib.hid hA2
              clear hxl hdr e2 hA2
              go_upto_region 27 with fail
              refine wp_region_planH 11 [] [(true, 0), (true, 1), (true, 2), (true, 3), (true, 4), (true, 5), (true, 6), (true, 7), (true, 8), (true, 9), (true, 10)] [11] (fun wS => wS = wr.drew) (by kernel_rfl) (by kernel_rfl) (rfl) ?_
              simp only [pickH, pick, List.getElem?_cons_succ, List.getElem?_cons_zero, Option.toList, Option.map_some, List.cons_append, List.nil_append]
              repeat (refine wpPure_step ?_ rfl ?_ ?_; rotate_left; (focus (intro _; first | with_reducible rfl | (go_simp; done) | (go_simp; with_reducible rfl) | rfl)); go_simp)
              refine wpPure_nil ?_
              repeat (refine wpMix_read ?_ rfl ?_ ?_; rotate_left; (focus (intro _ hS; obtain rfl := hS; first | with_reducible rfl | (go_simp; done) | (go_simp; with_reducible rfl) | rfl)); go_simp)
              refine wpMix_nil ?_
              go_wp2_with fail
              refine NoPanic.normal ?_
              clear y0 y1 y2 y3 y4 y5
              obtain ⟨w8, hw8⟩ : ∃ w8, w8 = wr.drew := ⟨_, rfl⟩
              rw [← hw8]
              have HO8 : Hid (Own w0 (RkP q c * (Ar b6 ia ib * (StSl (.slice (some ⟨b, off, none⟩) (0 + 1) cap) (facesW :: r) * R))) w8) := Lib.hid (by rw [hw8]; exact HOK.out.drew)
              have yc : w8.cell? ⟨b, off, none⟩ = some (.string X) := by rw [hw8]; exact hc5d
              clear hw8 hc5d
              obtain ⟨RR, hRR⟩ : ∃ RR, RR = Ar b6 ia ib * (StSl (.slice (some ⟨b, off, none⟩) (0 + 1) cap) (facesW :: r) * R) := ⟨_, rfl⟩
              rw [← hRR] at HO8
              have hfin : ∀ (w : World) (c' : Cs), Own w0 (RkP q c' * RR) w → Own w0 (RkP q c' * R) w := fun w c' ho => by
                rw [hRR] at ho
                exact (ho.perm (show _ = Ar b6 ia ib * (StSl (.slice (some ⟨b, off, none⟩) (0 + 1) cap) (facesW :: r) * (RkP q c' * R)) by ac_rfl)).drop.drop
              have har : ∀ (w : World) (P : HProp), Own w0 (P * RR) w → w.cell? ⟨b6, 0, none⟩ = some (.int .i64 ia) ∧ w.cell? ⟨b6, 1, none⟩ = some (.int .i64 ib) := fun w P ho => by
                rw [hRR] at ho
                have h1 := (ho.perm (show _ = Ar b6 ia ib * (P * (StSl (.slice (some ⟨b, off, none⟩) (0 + 1) cap) (facesW :: r) * R)) by ac_rfl)).ar
                exact ⟨h1.1, h1.2.1⟩
              obtain ⟨a0, a1⟩ := har _ _ HO8.out
              have HRR := Lib.hid hRR; have HFIN := Lib.hid hfin; have HAR := Lib.hid har
              clear hRR hfin har
              obtain ⟨nb, nad, ncap, hv, y1, y2, y3, y4, y5, _, _, ⟨RE, hre, hrep⟩⟩ := HO8.out.rk_reads
              have hrd : ReadsE w0 (EvSl hv c.hist * RE) hv c.hist := EvSl_reads HZ.out.i.hist
              have hfc := refFaces_any hv c.hist hre hrd HZ.out.rH
              have e0 : facesErr c.hist = 0 := HZ.out.right
              have f1 : facesF c.hist = fifoB c.hist := by unfold facesF; rw [e0]; rfl
              have f2 : facesC c.hist = causalB c.hist := by unfold facesC; rw [e0]; rfl
              have f3 : facesT c.hist = totalB c.hist := by unfold facesT; rw [e0]; rfl
              have HRE := Lib.hid hre; have HREP := Lib.hid hrep; have HRD := Lib.hid hrd; have HFC := Lib.hid hfc; have E0 := Lib.hid e0; have F1 := Lib.hid f1; have F2 := Lib.hid f2; have F3 := Lib.hid f3
              clear hre hrep hrd hfc e0 f1 f2 f3
              go_wp2_with fail
              refine HFC.out.mono ?_
              rintro e w9 ⟨rfl, ho⟩
              have hff := rfaces_any (fifoB c.hist) (causalB c.hist) (totalB c.hist) ho
              clear ho
              have HFF := Lib.hid hff
              clear hff
              go_wp2_with fail
              refine HFF.out.mono ?_
              rintro e w10 ⟨rfl, ho⟩
              have HO9 := Lib.hid (HREP.out _ ho)
              clear ho
              go_wp2_with fail
              go_ret
              exact ⟨by rw [HA2.out, E0.out, ans_zero, F1.out, F2.out, F3.out]; first | done | rfl, HFIN.out _ _ HO9.out⟩
            · subst hx1
              have hdr : doR c clockW ia ib = (c, clkB c ia, clkE c ia) := by
                unfold doR
                rw [if_neg (by decide)]
                rw [if_neg (by decide)]
                rw [if_neg (by decide)]
                rw [if_neg (by decide)]
                rw [if_neg (by decide)]
                rw [if_neg (by decide)]
                rw [if_neg (by decide)]
                rw [if_neg (by rw [HZ.out.r0]; simp)]
                unfold clkB clkE
                split <;> rfl
              have hdo := HDO.out
              rw [hdr] at hdo
              injection hdo with e1 e2
              replace e1 := e1.symm
              subst e1
              have hA2 : A = tx (ansB (clkB c ia, clkE c ia)) := by rw [HA.out, e2]
              have t0 : (X.toList == ([115, 97, 121] : List UInt8)) = false := by rw [hxl]; decide
              have t1 : (X.toList == ([103, 105, 118, 101] : List UInt8)) = false := by rw [hxl]; decide
              have t2 : (X.toList == ([100, 114, 111, 112] : List UInt8)) = false := by rw [hxl]; decide
              have t3 : (X.toList == ([116, 119, 105, 99, 101] : List UInt8)) = false := by rw [hxl]; decide
              have t4 : (X.toList == ([119, 97, 121] : List UInt8)) = false := by rw [hxl]; decide
              have t5 : (X.toList == ([104, 101, 97, 114, 100] : List UInt8)) = false := by rw [hxl]; decide
              have t6 : (X.toList == ([102, 97, 99, 101, 115] : List UInt8)) = false := by rw [hxl]; decide
              have t7 : (X.toList == ([99, 108, 111, 99, 107] : List UInt8)) = true := by rw [hxl]; decide
              have HXL := Lib.hid hxl; have HDR := Lib.hid hdr; have E2 := Lib.hid e2; have HA2 := Lib.hid hA2
              clear hxl hdr e2 hA2
              go_upto_region 27 with fail
              refine wp_region_planH 11 [] [(true, 0), (true, 1), (true, 2), (true, 3), (true, 4), (true, 5), (true, 6), (true, 7), (true, 8), (true, 9), (true, 10)] [11] (fun wS => wS = wr.drew) (by kernel_rfl) (by kernel_rfl) (rfl) ?_
              simp only [pickH, pick, List.getElem?_cons_succ, List.getElem?_cons_zero, Option.toList, Option.map_some, List.cons_append, List.nil_append]
              repeat (refine wpPure_step ?_ rfl ?_ ?_; rotate_left; (focus (intro _; first | with_reducible rfl | (go_simp; done) | (go_simp; with_reducible rfl) | rfl)); go_simp)
              refine wpPure_nil ?_
              repeat (refine wpMix_read ?_ rfl ?_ ?_; rotate_left; (focus (intro _ hS; obtain rfl := hS; first | with_reducible rfl | (go_simp; done) | (go_simp; with_reducible rfl) | rfl)); go_simp)
              refine wpMix_nil ?_
              go_wp2_with fail
              refine NoPanic.normal ?_
              clear y0 y1 y2 y3 y4 y5
              obtain ⟨w8, hw8⟩ : ∃ w8, w8 = wr.drew := ⟨_, rfl⟩
              rw [← hw8]
              have HO8 : Hid (Own w0 (RkP q c * (Ar b6 ia ib * (StSl (.slice (some ⟨b, off, none⟩) (1 + 1) cap) (clockW :: r) * R))) w8) := Lib.hid (by rw [hw8]; exact HOK.out.drew)
              have yc : w8.cell? ⟨b, off, none⟩ = some (.string X) := by rw [hw8]; exact hc5d
              clear hw8 hc5d
              obtain ⟨RR, hRR⟩ : ∃ RR, RR = Ar b6 ia ib * (StSl (.slice (some ⟨b, off, none⟩) (1 + 1) cap) (clockW :: r) * R) := ⟨_, rfl⟩
              rw [← hRR] at HO8
              have hfin : ∀ (w : World) (c' : Cs), Own w0 (RkP q c' * RR) w → Own w0 (RkP q c' * R) w := fun w c' ho => by
                rw [hRR] at ho
                exact (ho.perm (show _ = Ar b6 ia ib * (StSl (.slice (some ⟨b, off, none⟩) (1 + 1) cap) (clockW :: r) * (RkP q c' * R)) by ac_rfl)).drop.drop
              have har : ∀ (w : World) (P : HProp), Own w0 (P * RR) w → w.cell? ⟨b6, 0, none⟩ = some (.int .i64 ia) ∧ w.cell? ⟨b6, 1, none⟩ = some (.int .i64 ib) := fun w P ho => by
                rw [hRR] at ho
                have h1 := (ho.perm (show _ = Ar b6 ia ib * (P * (StSl (.slice (some ⟨b, off, none⟩) (1 + 1) cap) (clockW :: r) * R)) by ac_rfl)).ar
                exact ⟨h1.1, h1.2.1⟩
              obtain ⟨a0, a1⟩ := har _ _ HO8.out
              have HRR := Lib.hid hRR; have HFIN := Lib.hid hfin; have HAR := Lib.hid har
              clear hRR hfin har
              obtain ⟨nb, nad, ncap, hv, y1, y2, y3, y4, y5, _, _, ⟨RE, hre, hrep⟩⟩ := HO8.out.drew.rk_reads
              obtain ⟨had, hcp, rfl, h7, h8, _⟩ := Own.rd hre
              obtain ⟨M, hM⟩ : ∃ M, M = c.hist.length := ⟨_, rfl⟩
              rw [← hM] at h7 y5 hre hrep
              have hvl : (vecsE c.hist).length = M := by rw [HZ.out.vecE]; unfold vecsR; rw [(vecState_len c.hist c.hist.length).1, hM]
              have a0 := (HAR.out _ _ HO8.out.drew).1
              have hrd : ReadsE w0 (EvSl (.slice had M hcp) c.hist * RE) (.slice had M hcp) c.hist := EvSl_reads HZ.out.i.hist
              have hvc := refVectors_any _ c.hist hre hrd HZ.out.rH
              by_cases hin : M ≤ ia
              · have he1 : clkB c ia = [] := by unfold clkB; rw [if_pos (by rw [hvl]; exact hin)]
                have he2 : clkE c ia = 1 := by unfold clkE; rw [if_pos (by rw [hvl]; exact hin)]
                have hnm := rname_any 1 (by omega) HO8.out.drew
                have HE1 := Lib.hid he1; have HE2 := Lib.hid he2; have HNM := Lib.hid hnm; have HM := Lib.hid hM; have HVL := Lib.hid hvl; have HRE := Lib.hid hre; have HREP := Lib.hid hrep; have HRD := Lib.hid hrd; have HVC := Lib.hid hvc
                clear he1 he2 hnm hM hvl hre hrep hrd hvc
                go_upto_region 47 with fail
                refine wp_region_planH 7 [] [(true, 0), (true, 1), (true, 2), (true, 3), (true, 4), (true, 5), (true, 6)] [7] (fun wS => wS = w8.drew) (by kernel_rfl) (by kernel_rfl) (rfl) ?_
                simp only [pickH, pick, List.getElem?_cons_succ, List.getElem?_cons_zero, Option.toList, Option.map_some, List.cons_append, List.nil_append]
                repeat (refine wpPure_step ?_ rfl ?_ ?_; rotate_left; (focus (intro _; first | with_reducible rfl | (go_simp; done) | (go_simp; with_reducible rfl) | rfl)); go_simp)
                refine wpPure_nil ?_
                repeat (refine wpMix_read ?_ rfl ?_ ?_; rotate_left; (focus (intro _ hS; obtain rfl := hS; first | with_reducible rfl | (go_simp; done) | (go_simp; with_reducible rfl) | rfl)); go_simp)
                refine wpMix_nil ?_
                go_wp2_with fail
                refine NoPanic.normal ?_
                go_wp2_with fail
                refine HNM.out.mono ?_
                rintro e w9 ⟨rfl, ho⟩
                have HO9 := Lib.hid ho
                clear ho
                go_wp2_with fail
                go_ret
                exact ⟨by rw [HA2.out, HE1.out, HE2.out]; first | done | rfl, HFIN.out _ _ HO9.out⟩
              have hiv : ia < (vecsR c.hist).length := by rw [← HZ.out.vecE, hvl]; omega
              have he1 : clkB c ia = rowT ((vecsE c.hist).getD ia []) := by unfold clkB; rw [if_neg (by rw [hvl]; exact hin)]
              have he2 : clkE c ia = 0 := by unfold clkE; rw [if_neg (by rw [hvl]; exact hin)]
              have HE1 := Lib.hid he1; have HE2 := Lib.hid he2; have HM := Lib.hid hM; have HVL := Lib.hid hvl; have HRE := Lib.hid hre; have HREP := Lib.hid hrep; have HRD := Lib.hid hrd; have HVC := Lib.hid hvc; have HIV := Lib.hid hiv
              clear he1 he2 hM hvl hre hrep hrd hvc hiv
              go_upto_region 47 with fail
              refine wp_region_planH 7 [] [(true, 0), (true, 1), (true, 2), (true, 3), (true, 4), (true, 5), (true, 6)] [7] (fun wS => wS = w8.drew) (by kernel_rfl) (by kernel_rfl) (rfl) ?_
              simp only [pickH, pick, List.getElem?_cons_succ, List.getElem?_cons_zero, Option.toList, Option.map_some, List.cons_append, List.nil_append]
              repeat (refine wpPure_step ?_ rfl ?_ ?_; rotate_left; (focus (intro _; first | with_reducible rfl | (go_simp; done) | (go_simp; with_reducible rfl) | rfl)); go_simp)
              refine wpPure_nil ?_
              repeat (refine wpMix_read ?_ rfl ?_ ?_; rotate_left; (focus (intro _ hS; obtain rfl := hS; first | with_reducible rfl | (go_simp; done) | (go_simp; with_reducible rfl) | rfl)); go_simp)
              refine wpMix_nil ?_
              go_wp2_with fail
              refine NoPanic.normal ?_
              go_wp2_with fail
              refine HVC.out.mono ?_
              rintro e w9 ⟨v9, rs, rfl, hrs, ho⟩
              have hil : ia < rs.length := by have h1 := HIV.out; rw [← hrs, List.length_map] at h1; exact h1
              obtain ⟨rv, lv, hrl⟩ : ∃ rv lv, rs[ia] = (rv, lv) := ⟨_, _, rfl⟩
              have hk : rs[ia]? = some (rv, lv) := by rw [List.getElem?_eq_getElem hil, hrl]
              have hll : (vecsE c.hist).getD ia [] = lv := by rw [HZ.out.vecE, ← hrs, List.getD_eq_getElem?_getD, List.getElem?_map, hk]; rfl
              have hsm : Small lv := vecs_small HZ.out.rH lv (by
                rw [← hrs]
                exact List.mem_map.2 ⟨_, List.getElem_mem hil, by rw [hrl]⟩)
              have hl5 : lv.length ≤ 100 := by
                have h1 := (vecState_in HZ.out.rH c.hist.length (Nat.le_refl _)).1 lv (by show lv ∈ vecsR c.hist; rw [← hrs]; exact List.mem_map.2 ⟨_, List.getElem_mem hil, by rw [hrl]⟩)
                have := h1.1
                omega
              obtain ⟨vb, vo, vcap, hvv, v3, v4, vcell, vints⟩ := Own.ls_row ho hk hsm.ints
              subst hvv
              have hrw := rrow_any (w := w9) rv lv vints hsm.big hl5
              have ho9 := HREP.out _ ho.drop
              have a9 := (HAR.out _ _ ho9).1
              obtain ⟨N9, hN9⟩ : ∃ N9, N9 = rs.length := ⟨_, rfl⟩
              rw [← hN9] at v3 hil ⊢
              clear ho
              have HO9_ := Lib.hid ho9
              clear ho9
              have HRS := Lib.hid hrs; have HRL := Lib.hid hrl; have HK := Lib.hid hk; have HLL := Lib.hid hll; have HSM := Lib.hid hsm; have HL5 := Lib.hid hl5; have VINTS := Lib.hid vints; have HRW := Lib.hid hrw; have HN9 := Lib.hid hN9
              clear hrs hrl hk hll hsm hl5 vints hrw hN9
              go_wp2_with fail
              refine HRW.out.mono ?_
              rintro e w10 ⟨rfl, rfl⟩
              go_wp2_with fail
              go_ret
              exact ⟨by rw [HA2.out, HE2.out, ans_zero, HE1.out, HLL.out]; first | done | rfl, HFIN.out _ _ HO9_.out⟩
end Go.Proofs.YtdfjbnfdknpahaaGreatDoor
