/- TokenFair: each its turn. -/
import Derived.Test.YtclapdicocbnoaaToken3
namespace Go.Proofs.Ytclapdicocbnoaa
set_option linter.unusedVariables false
set_option linter.unusedSimpArgs false
open Go.RowKit
theorem tf_facts : tokBad (2 : Nat) (1 : Nat) = false ∧ tokErr (tokNew 2 1) 0 3 = 0 ∧ tokErr (tokSay (tokNew 2 1) 0 3) 0 4 = 0 ∧ passOut (tokSay (tokSay (tokNew 2 1) 0 3) 0 4) = [(0, 3)] ∧ (tokPass (tokSay (tokSay (tokNew 2 1) 0 3) 0 4)).holder = 1 := by decide
theorem tf_inv0 : TkSay 2 1 (tokNew 2 1) := tkSay_new 2 1 (by omega) (by omega) (by omega) (by omega)
theorem tf_inv1 : TkSay 2 1 (tokSay (tokNew 2 1) 0 3) := tkSay_say tf_inv0 0 3
theorem tf_inv2 : TkSay 2 1 (tokSay (tokSay (tokNew 2 1) 0 3) 0 4) := tkSay_say tf_inv1 0 4
theorem tf_errV1 : errV 1 = .iface 31 (.int .i64 1) := rfl
/-- An entry of an owned list of placed words. -/
theorem Own.pl_at {w0 w : World} {v : Value} {l : List (Int × Int)} {R : HProp} (h : Own w0 (PlSl v l * R) w) (hl : 0 < l.length) :
    ∃ b off cap, v = .slice (some ⟨b, off, none⟩) l.length cap ∧ l.length ≤ cap ∧ cap ≤ 9223372036854775807 ∧ ∀ k (hk : k < l.length), w.cell? ⟨b, off + k * 2, none⟩ = some (.int .i64 l[k].1) ∧ w.cell? ⟨b, off + k * 2 + 1, none⟩ = some (.int .i64 l[k].2) := by
  obtain ⟨b, off, cap, e, h1, h2, hc, _⟩ := Own.sl_at h (by rw [pl_len]; omega)
  refine ⟨b, off, cap, e, h1, by simpa [maxLen] using h2, fun k hk => ⟨?_, ?_⟩⟩
  · have := cells_get plCells 2 (fun _ => rfl) l k 0 hk (by omega)
    have h3 := hc (k * 2) (.int .i64 l[k].1) (by simpa [plCells] using this)
    exact h3
  · have := cells_get plCells 2 (fun _ => rfl) l k 1 hk (by omega)
    have h3 := hc (k * 2 + 1) (.int .i64 l[k].2) (by simpa [plCells] using this)
    rw [Nat.add_assoc]; exact h3
theorem tf_cells {w0 w : World} {vx : Value} {xs row : List Int} {T R : HProp} {adl adw : Option Addr} {N L cpl cpw m : Nat} {out : List (Int × Int)} {a y : Int}
    (h : Own w0 (IntSl vx xs * (T * (PlSl (.slice adl N cpl) out * (IntSl (.slice adw L cpw) row * R)))) w) (hN : m < N) (hL : m < L) (ho : out[m]? = some (a, y)) (hr : row[m]? = some y) :
    ∃ b off b' off', adl = some ⟨b, off, none⟩ ∧ adw = some ⟨b', off', none⟩ ∧ N ≤ cpl ∧ L ≤ cpw ∧ w.cell? ⟨b, off + m * 2, none⟩ = some (.int .i64 a) ∧ w.cell? ⟨b, off + m * 2 + 1, none⟩ = some (.int .i64 y) ∧ w.cell? ⟨b', off' + m, none⟩ = some (.int .i64 y) := by
  have hs1 : Own w0 (PlSl (.slice adl N cpl) out * (IntSl (.slice adw L cpw) row * (IntSl vx xs * (T * R)))) w := h.perm (by ac_rfl)
  obtain ⟨hm1, e1⟩ := List.getElem?_eq_some_iff.1 ho
  obtain ⟨hm2, e2⟩ := List.getElem?_eq_some_iff.1 hr
  obtain ⟨b, off, cap, hv1, hc1, _, hc⟩ := hs1.pl_at (by omega)
  obtain ⟨b', off', cap', hv2, hc2, _, hc', _⟩ := (hs1.drop).ints_at (by omega)
  injection hv1 with a1 a2 a3
  injection hv2 with a4 a5 a6
  have k := hc m hm1
  have k' := hc' m hm2
  rw [e1] at k
  rw [e2] at k'
  exact ⟨b, off, b', off', a1, a4, by omega, by omega, k.1, k.2, k'⟩
set_option maxRecDepth 100000 in
set_option maxHeartbeats 4000000 in
theorem tokenFair_law (w : World) (n : Int) (_hn : I64 n) (most : Int) (_hm : I64 most) (vt : Value) (says : List (List Int)) (hvt : Rows2 w vt says) :
    Calls Try.prog 8 #[.int .i64 n, .int .i64 most, vt] w fun e w' => e = .returned (.bool true) ∧ Below w.heap.size w w' := by
  obtain ⟨tad, tcap, rfl, htc1, htc2⟩ := hvt.shape
  have F := Lib.hid tf_facts
  have HVT := Lib.hid hvt
  clear hvt
  go_enter Try.func8, Try.ntmps8
  go_wp2_with fail
  refine (tokNew_yes 2 1 F.out.1 (Own.start _)).mono ?_
  rintro e w' ⟨q, rfl, ho⟩
  have HO0 := Lib.hid ho
  clear ho
  go_wp2_with fail
  refine (tokSay_any q _ 0 3 tf_inv0.fit HO0.out).mono ?_
  rintro e wa ⟨rfl, ho⟩
  rw [F.out.2.1, errV0]
  have HO1 := Lib.hid ho
  clear ho
  go_wp2_with fail
  refine (tokSay_any q _ 0 4 tf_inv1.fit HO1.out).mono ?_
  rintro e wb ⟨rfl, ho⟩
  rw [F.out.2.2.1, errV0]
  have HO2 := Lib.hid ho
  clear ho
  go_wp2_with fail
  refine (tokPass_any q _ tf_inv2.fit HO2.out).mono ?_
  rintro e wc ⟨v1, rfl, ho⟩
  rw [F.out.2.2.2.1] at ho
  obtain ⟨b1, off1, cap1, hv1, hcap1, _, hcell⟩ := ho.pl_at (by decide)
  have hc0 := (hcell 0 (by decide)).1
  have hc1 := (hcell 0 (by decide)).2
  subst hv1
  have hcap1' : 1 ≤ cap1 := hcap1
  have hc0' : wc.cell? ⟨b1, off1, none⟩ = some (.int .i64 0) := by simpa using hc0
  have hc1' : wc.cell? ⟨b1, off1 + 1, none⟩ = some (.int .i64 3) := by simpa using hc1
  have hhold := ho.drop.tok_holder
  rw [F.out.2.2.2.2] at hhold
  have HO3 := Lib.hid ho.drop.drop
  simp only [List.length_cons, List.length_nil] at *
  clear ho hcell hc0 hc1
  go_wp2_with fail
  refine (tokHolder_any q 1 _ (by exact hhold)).mono ?_
  rintro e w' ⟨rfl, rfl⟩
  go_wp2_with fail
  clear hc0' hc1' hcap1 hcap1' hhold
  cases hb : tokBad n most
  case true =>
    have HB := Lib.hid hb
    clear hb
    refine (tokNew_no _ _ _ HB.out).mono ?_
    rintro e w' ⟨rfl, rfl⟩
    rw [tf_errV1]
    have hbel := HO3.out.below
    go_wp2
    go_ret
    exact ⟨rfl, hbel⟩
  have hg : isGroup n = true := by cases hg : isGroup n <;> simp [tokBad, hg] at hb ⊢
  have hn5 : 2 ≤ n ∧ n ≤ 5 := by simp [isGroup] at hg; omega
  have hm1 : 1 ≤ most ∧ most ≤ 10 := by simp [tokBad, hg] at hb; omega
  obtain ⟨n, rfl⟩ := Int.eq_ofNat_of_zero_le (show 0 ≤ n by omega)
  obtain ⟨most, rfl⟩ := Int.eq_ofNat_of_zero_le (show 0 ≤ most by omega)
  have hn1 : 2 ≤ n := by omega
  have hn2 : n ≤ 5 := by omega
  have hmm1 : 1 ≤ most := by omega
  have hmm2 : most ≤ 10 := by omega
  have hi0 := tkSay_new n most hn1 hn2 hmm1 hmm2
  have HB := Lib.hid hb
  clear hb hg hn5 hm1
  refine (tokNew_yes n most HB.out HO3.out).mono ?_
  rintro e w1 ⟨p, rfl, ho⟩
  have HO := Lib.hid ho
  clear ho
  have HI0 := Lib.hid hi0
  clear hi0
  go_wp2_with fail
  go_loopw [12] (fun i wr => ∃ (k : Nat) (t : Tok), k ≤ says.length ∧ i = .int .i64 k ∧ Hid (TkSay n most t) ∧ Hid (Own w (TokP p t * emp) wr)) (fun i _ => says.length - (intOf i).toNat)
  case atStart => exact ⟨0, _, Nat.zero_le _, rfl, HI0, HO⟩
  case round =>
    obtain ⟨k, t, hk, rfl, HI, HP⟩ := hrel
    by_cases hlt : k < says.length ∧ k < 40
    · obtain ⟨hltk, hlt40⟩ := hlt
      have hd40 : decide ((k : Int) < 40) = true := by simp; omega
      obtain ⟨a2, rad, rcap, ha2, hcell, hints⟩ := (HVT.out.later HP.out).at k hltk
      subst ha2
      obtain ⟨row, hrow⟩ : ∃ row, row = says[k] := ⟨_, rfl⟩
      rw [← hrow] at hcell hints
      by_cases h2 : row.length = 2
      · obtain ⟨x0, x1, rfl⟩ : ∃ x0 x1, row = [x0, x1] := by
          match row, h2 with
          | [x0, x1], _ => exact ⟨x0, x1, rfl⟩
        have hcell2 : wr.cell? (a2.add k) = some (.slice rad 2 rcap) := hcell
        obtain ⟨b, hb, hc0⟩ := hints.at 0 (by simp)
        obtain ⟨b', hb', hc1⟩ := hints.at 1 (by simp)
        subst hb
        cases hb'
        have hc0' : wr.cell? b = some (.int .i64 x0) := by simpa [Addr.add] using hc0
        have hc1' : wr.cell? ⟨b.block, b.off + 1, none⟩ = some (.int .i64 x1) := by simpa [Addr.add] using hc1
        have hrc : (2 : Nat) ≤ rcap := by obtain ⟨_, _, e, h, _⟩ := hints.shape; injection e with e1 e2 e3; subst e3; exact h
        have hi3 := tkSay_say HI.out x0 x1
        have HROW := Lib.hid hrow; have HI3 := Lib.hid hi3; have H2 := Lib.hid h2; have HINTS := Lib.hid hints
        clear hrow hi3 h2 hints
        clear hcell hc0 hc1
        go_wp2_with fail
        refine wp_region_tail 13 (by kernel_rfl) (by kernel_rfl) ?_
        simp only [List.take_succ_cons, List.take_zero, List.drop_succ_cons, List.drop_zero]
        repeat still_step
        refine wpStill_nil ?_
        go_wp2_with fail
        refine (tokSay_any p t x0 x1 HI.out.fit HP.out.drew).mono ?_
        rintro e w3 ⟨rfl, ho⟩
        have HO3 := Lib.hid ho
        clear ho
        go_wp2
        exact ⟨⟨k + 1, _, by omega, by go_num, HI3, HO3⟩, by simp [intOf] <;> omega⟩
      · have hq2 : ((row.length : Int) == 2) = false := by simp; omega
        have HROW := Lib.hid hrow; have H2 := Lib.hid h2; have HINTS := Lib.hid hints
        clear hrow h2 hints
        go_wp2
        exact ⟨⟨k + 1, t, by omega, by go_num, HI, HP⟩, by simp [intOf] <;> omega⟩
    · rcases (by omega : says.length ≤ k ∨ (k < says.length ∧ 40 ≤ k)) with hge | ⟨hge1, hge⟩
      all_goals
        clear hlt
        go_wp2_with fail
        go_loopw [13, 14] (fun av rv w2 => ∃ (r placed : Nat) (t : Tok), r ≤ 30 ∧ placed ≤ 30 ∧ rv = .int .i64 r ∧ av = .int .i64 placed ∧ Hid (tokFit t ∧ t.waits.length = n ∧ t.most = most ∧ t.holder = 0 ∧ t.placed = placed ∧ tokSum t.waits ≤ 30 - r ∧ placed + tokSum t.waits ≤ 30) ∧ Hid (Own w (TokP p t * emp) w2)) (fun _ rv _ => 31 - (intOf rv).toNat)
        case atStart => exact ⟨0, 0, t, Nat.zero_le _, Nat.zero_le _, rfl, rfl, ⟨HI.out.fit, HI.out.len, HI.out.mst, HI.out.hold, HI.out.plc, HI.out.le, by have := HI.out.le; omega⟩, HP⟩
        case round =>
          clear HI HP
          obtain ⟨r, pl0, t0, hr30, hpl0, rfl, rfl, HI, HP⟩ := hrel
          have hd31 : decide ((r : Int) < 31) = true := by simp; omega
          go_wp2_with fail
          clear hd31
          go_loopw [13, 15, 16] (fun av lv jv w3 => ∃ (j left placed : Nat) (t : Tok), j ≤ n ∧ left ≤ 30 ∧ placed ≤ 30 ∧ jv = .int .i64 j ∧ lv = .int .i64 left ∧ av = .int .i64 placed ∧ Hid (TkRound n most j left (30 - r) placed t ∧ placed + tokSum t.waits ≤ 30) ∧ Hid (Own w (TokP p t * emp) w3)) (fun _ _ jv _ => n - (intOf jv).toNat)
          case atStart => exact ⟨0, 0, pl0, t0, Nat.zero_le _, Nat.zero_le _, hpl0, rfl, rfl, rfl, ⟨tkRound_start HI.out.1 HI.out.2.1 HI.out.2.2.1 HI.out.2.2.2.1 HI.out.2.2.2.2.1 HI.out.2.2.2.2.2.1, HI.out.2.2.2.2.2.2⟩, HP⟩
          case round =>
            obtain ⟨j, left, placed, t, hj, hl30, hp30, rfl, rfl, rfl, HR, HQ⟩ := hrel
            by_cases hjn : j < n
            · have hh : t.holder = j := by rw [HR.out.1.hold]; exact Nat.mod_eq_of_lt hjn
              have hhc := HQ.out.tok_holder
              rw [hh] at hhc
              have hjr : inR (j : Int) t.waits.length = true := by rw [HR.out.1.len]; simp [inR]; omega
              have hrow : rowOf t.waits (j : Int) = tokRow t := by unfold rowOf tokRow; rw [hjr, hh]; simp
              have hin : inErr (j : Int) t.waits.length = 0 := by unfold inErr; rw [hjr]; rfl
              have hps := tkRound_pass HR.out.1 hjn (by have := HR.out.2; omega)
              have hlen2 : (tokPass t).waits.length = t.waits.length := by simp [tokPass]
              have hrow2 : rowOf (tokPass t).waits (j : Int) = (tokRow t).drop (tokN t) := by
                unfold rowOf
                rw [hlen2, hjr]
                have hjl : j < t.waits.length := by rw [HR.out.1.len]; exact hjn
                simp [tokPass, hh, hjl]
              have hin2 : inErr (j : Int) (tokPass t).waits.length = 0 := by rw [hlen2]; exact hin
              obtain ⟨N, hN⟩ : ∃ N, N = tokN t := ⟨_, rfl⟩
              obtain ⟨L, hL⟩ : ∃ L, L = (tokRow t).length := ⟨_, rfl⟩
              have hNm : N = min L most := by rw [hN, hL]; unfold tokN; rw [HR.out.1.mst]
              have hout : (passOut t).length = N := by unfold passOut; rw [List.length_map, List.length_range, hN]
              obtain ⟨X, hX⟩ : ∃ X, X = L - N := ⟨_, rfl⟩
              have hxl : ((tokRow t).drop (tokN t)).length = X := by rw [List.length_drop, ← hL, ← hN, hX]
              have hrm : tokRow t ∈ t.waits := by
                have hjl : j < t.waits.length := by rw [HR.out.1.len]; exact hjn
                unfold tokRow
                rw [hh, List.getD_eq_getElem?_getD, List.getElem?_eq_getElem hjl]; exact List.getElem_mem hjl
              have hL30 : L ≤ 30 := by
                have h1 := row_le _ _ hrm
                have h2 := HR.out.2
                rw [hL]; omega
              have hLN : N ≤ L := by omega
              have hXN : X + N = L := by omega
              have hplN : placed + N ≤ 30 := by
                have h1 := row_le _ _ hrm
                have h2 := HR.out.2
                omega
              have hlX : left + X ≤ 30 := by
                have h1 := hps.1.lft
                have h2 := hps.2
                have h3 := HR.out.2
                have h4 := tokSum_take (tokPass t).waits (j + 1)
                rw [← hL, ← hN, ← hX] at h1
                omega
              rw [← hL, ← hN, ← hX] at hps
              have hplc := HR.out.1.plc
              have HH := Lib.hid hh; have HJR := Lib.hid hjr; have HROW := Lib.hid hrow; have HIN := Lib.hid hin; have HPS := Lib.hid hps; have HLEN2 := Lib.hid hlen2; have HROW2 := Lib.hid hrow2; have HIN2 := Lib.hid hin2; have HN := Lib.hid hN; have HL := Lib.hid hL; have HNM := Lib.hid hNm; have HOUT := Lib.hid hout; have HX := Lib.hid hX; have HXL := Lib.hid hxl; have HRM := Lib.hid hrm; have HPLC := Lib.hid hplc
              clear hh hjr hrow hin hps hlen2 hrow2 hin2 hN hL hNm hout hX hxl hrm hplc
              go_wp2_with fail
              refine (tokHolder_any p (j : Int) _ hhc).mono ?_
              rintro e w' ⟨rfl, rfl⟩
              go_wp2_with fail
              refine (tokWaits_any p t (j : Int) HR.out.1.fit HQ.out).mono ?_
              rintro e wa ⟨vw, rfl, ho⟩
              rw [HROW.out] at ho
              rw [HIN.out, errV0]
              obtain ⟨adw, cpw, hvw⟩ := ho.int_shape
              rw [← HL.out] at hvw
              subst hvw
              have HOA := Lib.hid (ho.perm (star_left_comm _ _ _))
              clear ho hhc
              go_wp2_with fail
              refine (tokPass_any p t HR.out.1.fit HOA.out).mono ?_
              rintro e wb ⟨vl, rfl, ho⟩
              obtain ⟨adl, cpl, hvl, _⟩ := Own.rd ho
              rw [HOUT.out] at hvl
              subst hvl
              have HOB := Lib.hid (ho.perm (star_left_comm _ _ _))
              clear ho
              go_wp2_with fail
              refine (tokWaits_any p (tokPass t) (j : Int) HPS.out.1.fit HOB.out).mono ?_
              rintro e wc ⟨vx, rfl, ho⟩
              rw [HROW2.out] at ho
              rw [HIN2.out, errV0]
              obtain ⟨adx, cpx, hvx⟩ := ho.int_shape
              rw [HXL.out] at hvx
              subst hvx
              have HOC := Lib.hid ho
              clear ho
              have hd1 : decide (most < N) = false := by have := HNM.out; simp; omega
              have hd2 : ((N : Int) != (L : Int) - (X : Int)) = false := by simp; omega
              rcases (by
                rcases Nat.eq_zero_or_pos X with h | h
                · exact .inl (by simp [h])
                · have := HNM.out
                  exact .inr ⟨by simp [h], by simp; omega, by simp; omega⟩ : decide (0 < X) = false ∨ (decide (0 < X) = true ∧ ((N : Int) != (most : Int)) = false ∧ (N != most) = false)) with hd3 | ⟨hd3, hd4, hd5⟩
              all_goals
                go_wp2_with fail
                go_loopw [13, 23] (fun av kv w4 => ∃ m : Nat, m ≤ N ∧ kv = .int .i64 m ∧ av = .int .i64 ((placed : Int) + (m : Int)) ∧ Hid (Own w (IntSl (.slice adx X cpx) ((tokRow t).drop (tokN t)) * (TokP p (tokPass t) * (PlSl (.slice adl N cpl) (passOut t) * (IntSl (.slice adw L cpw) (tokRow t) * emp)))) w4)) (fun _ kv _ => N - (intOf kv).toNat)
                case atStart => exact ⟨0, Nat.zero_le _, rfl, by simp, HOC⟩
                case round =>
                  obtain ⟨m, hm, rfl, rfl, HS⟩ := hrel
                  by_cases hmN : m < N
                  · obtain ⟨y, hy⟩ : ∃ y, y = (tokRow t).getD m 0 := ⟨_, rfl⟩
                    have hpe : (passOut t)[m]? = some ((placed : Int) + (m : Int), y) := by
                      unfold passOut passAt
                      rw [List.getElem?_map, List.getElem?_range (by rw [← HN.out]; exact hmN), Option.map_some, hy, HPLC.out]
                    have hye : (tokRow t)[m]? = some y := by
                      rw [hy, List.getD_eq_getElem?_getD, List.getElem?_eq_getElem (by rw [← HL.out]; omega)]; rfl
                    obtain ⟨b, off, b', off', rfl, rfl, q1, q2, k1, k2, k3⟩ := tf_cells HS.out hmN (by omega : m < L) hpe hye
                    have hm0 : (0 : Int) ≤ (m : Int) := by omega
                    have hmN' : (m : Int) < (N : Int) := by omega
                    have hmL' : (m : Int) < (L : Int) := by omega
                    clear hy hpe hye hd1 hd2
                    go_wp2_with fail
                    go_quiet (fail)
                    go_wp2
                    exact ⟨⟨m + 1, by omega, by go_num, by first | (congr 1; omega) | congr 1, Lib.hid (HS.out.drewN _)⟩, by simp [intOf] <;> omega⟩
                  · have hmn : m = N := by omega
                    subst hmn
                    have HT := Lib.hid ((HS.out.drop).drop2)
                    have HPS2 := HPS
                    have hR2 : Hid (TkRound n most (j + 1) (left + X) (30 - r) (placed + m) (tokPass t) ∧ placed + m + tokSum (tokPass t).waits ≤ 30) := ⟨HPS.out.1, by have h1 := HPS.out.2; have h2 := HR.out.2; omega⟩
                    clear hd1 hd2
                    go_wp2
                    refine ⟨⟨j + 1, left + X, placed + m, tokPass t, by omega, hlX, hplN, by go_num, by go_num, by go_num, hR2, ?_⟩, by simp [intOf] <;> omega⟩
                    exact HT.out.mono fun _ hh => by rw [star_emp]; exact hh
            · have hjn' : j = n := by omega
              subst hjn'
              have he := tkRound_end HR.out.1 (by omega)
              have h30 := HR.out.2
              by_cases hl0 : left = 0
              · subst hl0
                have hbel := HQ.out.below
                go_wp2
                go_ret
                exact ⟨rfl, hbel⟩
              · have hq0 : ((left : Int) == 0) = false := by simp; omega
                have h3 := he.2.2 (by omega)
                have h1 := he.1
                have HI2 : Hid (tokFit t ∧ t.waits.length = j ∧ t.most = most ∧ t.holder = 0 ∧ t.placed = placed ∧ tokSum t.waits ≤ 30 - (r + 1) ∧ placed + tokSum t.waits ≤ 30) := ⟨HR.out.1.fit, HR.out.1.len, HR.out.1.mst, he.2.1, HR.out.1.plc, by omega, h30⟩
                clear he h1
                go_wp2
                exact ⟨⟨r + 1, placed, t, by omega, hp30, by go_num, rfl, HI2, HQ⟩, by simp [intOf] <;> omega⟩
end Go.Proofs.Ytclapdicocbnoaa
