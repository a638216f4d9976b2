/- LeaderOne: each hears a beginning of what was given places; when what lacks has come all heard all. -/
import Derived.Test.YtclapdicocbnoaaLeaderP
import Derived.Test.YtclapdicocbnoaaLeaderBack
namespace Go.Proofs.Ytclapdicocbnoaa
set_option linter.unusedVariables false
set_option linter.unusedSimpArgs false
open Go.RowKit
theorem one_facts : ldSayErr (ldNew 2) 8 = 0 ∧ ldSayOut (ldNew 2) 8 = (0, 8) ∧ ldSayErr (ldSay (ldNew 2) 8) 9 = 0 ∧ ldSayOut (ldSay (ldNew 2) 8) 9 = (1, 9) ∧
    ldErr (ldSay (ldSay (ldNew 2) 8) 9) 1 1 = 0 ∧ ldOut (ldSay (ldSay (ldNew 2) 8) 9) 1 1 = [] ∧
    ldErr (ldTake (ldSay (ldSay (ldNew 2) 8) 9) 1 1) 1 0 = 0 ∧ ldOut (ldTake (ldSay (ldSay (ldNew 2) 8) 9) 1 1) 1 0 = [8, 9] := by decide
theorem one_inv1 : LdInv 2 (ldSay (ldNew 2) 8) := ldInv_say (ldInv_new 2) 8
theorem one_inv2 : LdInv 2 (ldSay (ldSay (ldNew 2) 8) 9) := ldInv_say one_inv1 9
theorem one_inv3 : LdInv 2 (ldTake (ldSay (ldSay (ldNew 2) 8) 9) 1 1) := ldInv_take one_inv2 1 1
set_option maxRecDepth 100000 in
set_option maxHeartbeats 4000000 in
theorem leaderOne_law (w : World) (n : Int) (_hn : I64 n) (vw : Value) (words : List Int) (hvw : Ints w vw words) (vt : Value) (takes : List (List Int)) (hvt : Rows2 w vt takes) :
    Calls Try.prog 11 #[.int .i64 n, vw, vt] w fun e w' => e = .returned (.bool true) ∧ Below w.heap.size w w' := by
  obtain ⟨wad, wcap, rfl, hwc1, hwc2⟩ := hvw.shape
  obtain ⟨tad, tcap, rfl, htc1, htc2⟩ := hvt.shape
  have F := Lib.hid one_facts
  have hg2 : isGroup (2 : Nat) = true := by decide
  have HG2 := Lib.hid hg2; have HVW := Lib.hid hvw; have HVT := Lib.hid hvt
  clear hg2 hvw hvt
  go_enter Try.func11, Try.ntmps11
  go_wp2_with fail
  refine (ldNew_yes 2 HG2.out (Own.start _)).mono ?_
  rintro e w' ⟨q, rfl, ho⟩
  have HO0 := Lib.hid ho
  clear ho
  go_wp2_with fail
  refine (ldSay_any q _ 8 (ldInv_new 2).fit HO0.out).mono ?_
  rintro e wa ⟨rfl, ho⟩
  rw [F.out.1, F.out.2.1, errV0]
  obtain ⟨ba, hba⟩ : ∃ ba, ba = wa.heap.size := ⟨_, rfl⟩
  have ho1 := (ho.alloc (.cells #[.int .i64 0, .int .i64 8] 54)).perm (star_left_comm _ _ _)
  rw [← hba] at ho1
  have HO1 := Lib.hid ho1
  have HBA := Lib.hid hba
  clear ho ho1 hba
  go_wp2_with fail
  rw [← HBA.out]
  refine (ldSay_any q _ 9 one_inv1.fit HO1.out).mono ?_
  rintro e wb ⟨rfl, ho⟩
  rw [F.out.2.2.1, F.out.2.2.2.1, errV0]
  obtain ⟨bb, hbb⟩ : ∃ bb, bb = wb.heap.size := ⟨_, rfl⟩
  have ho1 := (ho.alloc (.cells #[.int .i64 1, .int .i64 9] 54)).perm (star_left_comm _ _ _)
  rw [← hbb] at ho1
  have HO2 := Lib.hid ho1
  have HBB := Lib.hid hbb
  clear ho ho1 hbb
  go_wp2_with fail
  rw [← HBB.out]
  refine (ldTake_any q _ 1 1 one_inv2.fit HO2.out).mono ?_
  rintro e wc ⟨v1, rfl, ho⟩
  rw [F.out.2.2.2.2.2.1] at ho
  rw [F.out.2.2.2.2.1, errV0]
  obtain ⟨ad1, cp1, rfl, _⟩ := Own.rd ho
  have HO3 := Lib.hid ho.drop
  clear ho
  go_wp2_with fail
  refine (ldTake_any q _ 1 0 one_inv3.fit HO3.out).mono ?_
  rintro e wd ⟨v2, rfl, ho⟩
  rw [F.out.2.2.2.2.2.2.2] at ho
  rw [F.out.2.2.2.2.2.2.1, errV0]
  obtain ⟨b2, off2, cp2, rfl, hcp2, _, hc2, _⟩ := ho.ints_at (by decide)
  have hc21 := hc2 1 (by decide)
  have hbbO : Own w (blk bb (.cells #[.int .i64 1, .int .i64 9] 54 (0, 0)) * emp) wd := (ho.drop.drop.perm (by ac_rfl : _ = blk ba _ * (blk bb (.cells #[.int .i64 1, .int .i64 9] 54 (0, 0)) * emp))).drop
  have hbaO : Own w (blk ba (.cells #[.int .i64 0, .int .i64 8] 54 (0, 0)) * emp) wd := (ho.drop.drop).drop
  have k1 : wd.cell? ⟨ba, 0, none⟩ = some (.int .i64 0) := by rw [hbaO.cell]; rfl
  have k2 : wd.cell? ⟨bb, 0, none⟩ = some (.int .i64 1) := by rw [hbbO.cell]; rfl
  have HO4 := Lib.hid hbaO.drop
  simp only [List.length_cons, List.length_nil] at hcp2 hc21
  clear ho hc2 hbbO hbaO
  go_wp2_with fail
  cases hg : isGroup n
  · have HG := Lib.hid hg
    clear hg
    refine (ldNew_no _ _ HG.out).mono ?_
    rintro e w' ⟨rfl, rfl⟩
    rw [lb_errV1]
    have hbel := HO4.out.below
    go_wp2
    go_ret
    exact ⟨rfl, hbel⟩
  have hn5 : 2 ≤ n ∧ n ≤ 5 := by simp [isGroup] at hg; omega
  obtain ⟨n, rfl⟩ := Int.eq_ofNat_of_zero_le (show 0 ≤ n by omega)
  have hn2 : 2 ≤ n := by omega
  have HG := Lib.hid hg
  clear hg hcp2 hc21 k1 k2
  refine (ldNew_yes n HG.out HO4.out).mono ?_
  rintro e w1 ⟨p, rfl, ho⟩
  have HO := Lib.hid ho
  clear ho
  go_wp2_with fail
  go_loopw [19, 20] (fun v i wr => ∃ (k : Nat) (l : Ld), k ≤ words.length ∧ k ≤ 40 ∧ i = .int .i64 k ∧ Hid (LdInv n l) ∧ Hid (Own w (IntSl v l.words * (LdP p l * emp)) wr)) (fun _ i _ => words.length - (intOf i).toNat)
  case atStart => exact ⟨0, ldNew n, Nat.zero_le _, Nat.zero_le _, rfl, Lib.hid (ldInv_new n), Lib.hid (HO.out.sl_nil _ _)⟩
  case round =>
    obtain ⟨k, l, hk, hk40, rfl, HI, HP⟩ := hrel
    obtain ⟨ad, cp, hv⟩ := HP.out.int_shape
    subst hv
    by_cases hlt : k < words.length ∧ k < 40
    · obtain ⟨hlt, hlt40⟩ := hlt
      obtain ⟨aw, hawe, hcw⟩ := (HVW.out.later HP.out).at k hlt
      obtain ⟨x, hx⟩ : ∃ x, x = words[k] := ⟨_, rfl⟩
      rw [← hx] at hcw
      subst hawe
      have hp1 := HP.out.perm (star_left_comm _ _ _)
      have HX := Lib.hid hx; have HP1 := Lib.hid hp1
      clear hx hp1
      by_cases he : ldSayErr l x = 0
      · have hs : ldSay l x = ⟨l.words ++ [x], l.mem⟩ := by unfold ldSay; rw [if_pos he]
        have ho1 : ldSayOut l x = ((l.words.length : Int), x) := by unfold ldSayOut; rw [if_pos he]
        have hi2 := ldInv_say HI.out x
        obtain ⟨L, hL⟩ : ∃ L, L = l.words.length := ⟨_, rfl⟩
        have hL30 : L ≤ 30 := by rw [hL]; exact HI.out.le
        rw [hs] at hi2
        rw [← hL] at ho1
        have HE := Lib.hid he; have HS := Lib.hid hs; have HO1 := Lib.hid ho1; have HI2 := Lib.hid hi2; have HL := Lib.hid hL
        clear he hs ho1 hi2 hL
        go_wp2_with fail
        refine (ldSay_any p l x HI.out.fit HP1.out).mono ?_
        rintro e w2 ⟨rfl, ho⟩
        rw [HS.out] at ho
        rw [HE.out, HO1.out, errV0]
        have hcw2 : w2.cell? (aw.add k) = some (.int .i64 x) := by
          obtain ⟨aw2, e2, hc⟩ := (HVW.out.later ho).at k hlt
          cases e2; rw [hc, HX.out]
        have hcw3 : ∀ o, (w2.alloc o).cell? (aw.add k) = some (.int .i64 x) := fun o => by
          obtain ⟨aw2, e2, hc⟩ := (HVW.out.later (ho.alloc' o)).at k hlt
          cases e2; rw [hc, HX.out]
        rw [← HL.out]
        have ho2 := ho.perm (star_left_comm _ _ _)
        unfold IntSl at ho2
        rw [← HL.out] at ho2
        have HO2 := Lib.hid ho2
        clear ho ho2 hcw
        go_wp2_with fail
        go_quiet (fail)
        go_wp2_with (at_builtin; refine wpList_app rfl _ _ 44 rfl 3 1 8 _ info_int Try.underlying44 rfl (by decide) rfl (((HO2.out.alloc' _).drewN _).alloc' _) rfl (by rfl) (Rd_lit (by simp) (by unfold maxLen; omega)) (by intro u hu; simp at hu; subst hu; rfl) (by unfold maxLen; omega) (by omega) ?_; intro v' w3 hown3; have HO3 := Lib.hid hown3; clear hown3)
        refine ⟨⟨k + 1, ⟨l.words ++ [x], l.mem⟩, by omega, by omega, by go_num, HI2, Lib.hid (HO3.out.perm ?_)⟩, by simp [intOf] <;> omega⟩
        unfold IntSl
        simp [HL.out]
      · obtain ⟨m, hm⟩ := errV_some he
        have hs : ldSay l x = l := by unfold ldSay; rw [if_neg he]
        have HE := Lib.hid he; have HS := Lib.hid hs; have HM := Lib.hid hm
        clear he hs hm
        go_wp2_with fail
        refine (ldSay_any p l x HI.out.fit HP1.out).mono ?_
        rintro e w2 ⟨rfl, ho⟩
        rw [HS.out] at ho
        rw [HM.out]
        have HO2 := Lib.hid (ho.perm (star_left_comm _ _ _))
        clear ho hcw
        go_wp2
        exact ⟨⟨k + 1, l, by omega, by omega, by go_num, HI, Lib.hid (HO2.out.alloc' _)⟩, by simp [intOf] <;> omega⟩
    · rcases (by omega : words.length ≤ k ∨ (k < words.length ∧ 40 ≤ k)) with hge | ⟨hlt1, hge⟩
      all_goals
        clear hlt
        go_wp2_with fail
        go_loopw [23] (fun i w2 => ∃ (j : Nat) (l2 : Ld), j ≤ takes.length ∧ i = .int .i64 j ∧ Hid (LdInv n l2 ∧ l2.words = l.words) ∧ Hid (Own w (IntSl (.slice ad l.words.length cp) l.words * (LdP p l2 * emp)) w2)) (fun i _ => takes.length - (intOf i).toNat)
        case atStart => exact ⟨0, l, Nat.zero_le _, rfl, ⟨HI.out, rfl⟩, HP⟩
        case round =>
          obtain ⟨j, l2, hj, rfl, HI2, HP2⟩ := hrel
          have hp2 := HP2.out.perm (star_left_comm _ _ _)
          by_cases hlt : j < takes.length ∧ j < 120
          · obtain ⟨hltj, hlt120⟩ := hlt
            have hd120 : decide ((j : Int) < 120) = true := by simp; omega
            obtain ⟨a2, rad, rcap, ha2, hcell, hints⟩ := (HVT.out.later HP2.out).at j hltj
            subst ha2
            obtain ⟨row, hrow⟩ : ∃ row, row = takes[j] := ⟨_, rfl⟩
            rw [← hrow] at hcell hints
            by_cases h2 : row.length = 2
            · obtain ⟨x0, x1, rfl⟩ : ∃ x0 x1, row = [x0, x1] := by
                match row, h2 with
                | [x0, x1], _ => exact ⟨x0, x1, rfl⟩
              have hcell2 : wr.cell? (a2.add j) = some (.slice rad 2 rcap) := hcell
              obtain ⟨b, hb, hc0⟩ := hints.at 0 (by simp)
              obtain ⟨b', hb', hc1⟩ := hints.at 1 (by simp)
              subst hb
              cases hb'
              have hc0' : wr.cell? b = some (.int .i64 x0) := by simpa [Addr.add] using hc0
              have hc1' : wr.cell? ⟨b.block, b.off + 1, none⟩ = some (.int .i64 x1) := by simpa [Addr.add] using hc1
              have hrc : (2 : Nat) ≤ rcap := by obtain ⟨_, _, e, h, _⟩ := hints.shape; injection e with e1 e2 e3; subst e3; exact h
              have hi3 := ldInv_take HI2.out.1 x0 x1
              have hw3 := ldTake_words l2 x0 x1
              rw [HI2.out.2] at hw3
              have HP2 := Lib.hid hp2; have HROW := Lib.hid hrow; have HI3 := Lib.hid hi3; have HW3 := Lib.hid hw3; have H2 := Lib.hid h2; have HINTS := Lib.hid hints
              clear hp2 hrow hi3 hw3 h2 hints
              clear hcell hc0 hc1
              go_wp2_with fail
              refine wp_region_tail 13 (by kernel_rfl) (by kernel_rfl) ?_
              simp only [List.take_succ_cons, List.take_zero, List.drop_succ_cons, List.drop_zero]
              repeat still_step
              refine wpStill_nil ?_
              go_wp2_with fail
              refine (ldTake_any p l2 x0 x1 HI2.out.1.fit HP2.out.drew).mono ?_
              rintro e w3 ⟨v3, rfl, ho⟩
              have HO3 := Lib.hid ((ho.drop).perm (star_left_comm _ _ _))
              clear ho
              go_wp2_with fail
              go_loopw [24] (fun i w4 => ∃ m : Nat, m ≤ n ∧ i = .int .i64 m ∧ Hid (Own w (IntSl (.slice ad l.words.length cp) l.words * (LdP p (ldTake l2 x0 x1) * emp)) w4)) (fun i _ => n - (intOf i).toNat)
              case atStart => exact ⟨0, Nat.zero_le _, rfl, HO3⟩
              case round =>
                obtain ⟨m, hm, rfl, HP4⟩ := hrel
                by_cases hmn : m < n
                · have hin : inErr (m : Int) (ldTake l2 x0 x1).mem.length = 0 := by rw [HI3.out.len]; simp [inErr, inR]; omega
                  have hbg := ldHeard_begins (ldTake l2 x0 x1) m
                  rw [HW3.out] at hbg
                  have HIN := Lib.hid hin; have HBG := Lib.hid hbg
                  clear hin hbg
                  go_wp2_with fail
                  refine (ldHeard_any p _ (m : Int) HI3.out.fit (HP4.out.perm (star_left_comm _ _ _))).mono ?_
                  rintro e w5 ⟨v5, rfl, ho⟩
                  rw [HIN.out, errV0]
                  have hw5 : ∀ x ∈ l.words, I64 x := fun x hx => by have := HI.out.fit.2.1 x hx; unfold I64; omega
                  have hr1 : Ints w5 v5 (ldHeard (ldTake l2 x0 x1) m) := ⟨Own.rd ho, fun x hx => by
                    unfold ldHeard at hx; rw [HW3.out] at hx
                    split at hx
                    · exact hw5 x (List.mem_of_mem_take hx)
                    · cases hx⟩
                  have hr2 : Ints w5 (.slice ad l.words.length cp) l.words := ⟨by have h := ho.drop.drop; exact Own.rd h, hw5⟩
                  have HO5 := Lib.hid (ho.drop.perm (star_left_comm _ _ _))
                  have HR1 := Lib.hid hr1; have HR2 := Lib.hid hr2
                  clear hr1 hr2
                  clear ho hw5
                  go_wp2_with fail
                  refine (begins_any _ _ _ _ _ HR1.out HR2.out).mono ?_
                  rintro e w6 ⟨rfl, nd, rfl⟩
                  rw [HBG.out]
                  go_wp2
                  exact ⟨⟨m + 1, by omega, by go_num, Lib.hid (HO5.out.drewN _)⟩, by simp [intOf] <;> omega⟩
                · go_wp2
                  exact ⟨⟨j + 1, ldTake l2 x0 x1, by omega, by go_num, ⟨HI3.out, HW3.out⟩, HP4⟩, by simp [intOf] <;> omega⟩
            · have hq2 : ((row.length : Int) == 2) = false := by simp; omega
              have HI3 := Lib.hid HI2.out.1
              have HW3 := Lib.hid HI2.out.2
              have HP2 := Lib.hid hp2; have HROW := Lib.hid hrow; have H2 := Lib.hid h2; have HINTS := Lib.hid hints
              clear hp2 hrow h2 hints
              go_wp2_with fail
              clear hq2
              go_loopw [24] (fun i w4 => ∃ m : Nat, m ≤ n ∧ i = .int .i64 m ∧ Hid (Own w (IntSl (.slice ad l.words.length cp) l.words * (LdP p l2 * emp)) w4)) (fun i _ => n - (intOf i).toNat)
              case atStart => exact ⟨0, Nat.zero_le _, rfl, Lib.hid (HP2.out.perm (star_left_comm _ _ _))⟩
              case round =>
                obtain ⟨m, hm, rfl, HP4⟩ := hrel
                by_cases hmn : m < n
                · have hin : inErr (m : Int) l2.mem.length = 0 := by rw [HI3.out.len]; simp [inErr, inR]; omega
                  have hbg := ldHeard_begins l2 m
                  rw [HW3.out] at hbg
                  have HIN := Lib.hid hin; have HBG := Lib.hid hbg
                  clear hin hbg
                  clear hcell
                  go_wp2_with fail
                  refine (ldHeard_any p _ (m : Int) HI3.out.fit (HP4.out.perm (star_left_comm _ _ _))).mono ?_
                  rintro e w5 ⟨v5, rfl, ho⟩
                  rw [HIN.out, errV0]
                  have hw5 : ∀ x ∈ l.words, I64 x := fun x hx => by have := HI.out.fit.2.1 x hx; unfold I64; omega
                  have hr1 : Ints w5 v5 (ldHeard l2 m) := ⟨Own.rd ho, fun x hx => by
                    unfold ldHeard at hx; rw [HW3.out] at hx
                    split at hx
                    · exact hw5 x (List.mem_of_mem_take hx)
                    · cases hx⟩
                  have hr2 : Ints w5 (.slice ad l.words.length cp) l.words := ⟨by have h := ho.drop.drop; exact Own.rd h, hw5⟩
                  have HO5 := Lib.hid (ho.drop.perm (star_left_comm _ _ _))
                  have HR1 := Lib.hid hr1; have HR2 := Lib.hid hr2
                  clear hr1 hr2
                  clear ho hw5
                  go_wp2_with fail
                  refine (begins_any _ _ _ _ _ HR1.out HR2.out).mono ?_
                  rintro e w6 ⟨rfl, nd, rfl⟩
                  rw [HBG.out]
                  go_wp2
                  exact ⟨⟨m + 1, by omega, by go_num, Lib.hid (HO5.out.drewN _)⟩, by simp [intOf] <;> omega⟩
                · go_wp2
                  exact ⟨⟨j + 1, l2, by omega, by go_num, ⟨HI3.out, HW3.out⟩, HP4⟩, by simp [intOf] <;> omega⟩
          · rcases (by omega : takes.length ≤ j ∨ (j < takes.length ∧ 120 ≤ j)) with hgj | ⟨hgj1, hgj⟩
            all_goals
              clear hlt
              have HPX := Lib.hid hp2
              clear hp2
              go_wp2_with fail
              go_loopw [28] (fun i w4 => ∃ (m : Nat) (l3 : Ld), m ≤ n ∧ i = .int .i64 m ∧ Hid (LdInv n l3 ∧ l3.words = l.words) ∧ Hid (Own w (IntSl (.slice ad l.words.length cp) l.words * (LdP p l3 * emp)) w4)) (fun i _ => n - (intOf i).toNat)
              case atStart => exact ⟨0, l2, Nat.zero_le _, rfl, HI2, HP2⟩
              case round =>
                obtain ⟨m, l3, hm, rfl, HI3, HP3⟩ := hrel
                by_cases hmn : m < n
                · have hinr : inR (m : Int) n = true := by simp [inR]; omega
                  have hin : inErr (m : Int) l3.mem.length = 0 := by rw [HI3.out.1.len]; simp [inErr, hinr]
                  have hll := ldLacks_len HI3.out.1 m
                  obtain ⟨xs, hxs⟩ : ∃ xs, xs = ldLacks l3 m := ⟨_, rfl⟩
                  have hend := takeAll_heard HI3.out.1 hinr
                  have hin3 : inR (m : Int) l3.mem.length = true := by rw [HI3.out.1.len]; exact hinr
                  have hmx : ∀ x ∈ xs, 0 ≤ x ∧ x < l3.words.length := fun x hx => by rw [hxs] at hx; exact ((ldLacks_mem hin3 x).1 hx).1
                  rw [← hxs] at hll hend
                  have HIN := Lib.hid hin; have HXS := Lib.hid hxs; have HEND := Lib.hid hend; have HMX := Lib.hid hmx; have HINR := Lib.hid hinr; have HIN3 := Lib.hid hin3
                  clear hin hxs hend hmx hinr hin3
                  go_wp2_with fail
                  refine (ldLacks_any p _ (m : Int) HI3.out.1.fit (HP3.out.perm (star_left_comm _ _ _))).mono ?_
                  rintro e w5 ⟨v5, rfl, ho⟩
                  rw [HIN.out, errV0]
                  rw [← HXS.out] at ho
                  obtain ⟨ad5, cp5, hv5⟩ := ho.int_shape
                  subst hv5
                  have HO5 := Lib.hid ho
                  clear ho
                  go_wp2_with fail
                  go_loopw [31] (fun i w6 => ∃ t : Nat, t ≤ xs.length ∧ i = .int .i64 t ∧ Hid (Own w (IntSl (.slice ad5 xs.length cp5) xs * (LdP p (takeAll l3 m (xs.take t)) * (IntSl (.slice ad l.words.length cp) l.words * emp))) w6)) (fun i _ => xs.length - (intOf i).toNat)
                  case atStart => exact ⟨0, Nat.zero_le _, rfl, HO5⟩
                  case round =>
                    obtain ⟨t, ht, rfl, HP6⟩ := hrel
                    by_cases htl : t < xs.length
                    · obtain ⟨x, hx⟩ : ∃ x, x = xs[t] := ⟨_, rfl⟩
                      obtain ⟨b6, off6, cap6, hv6, _, _, hc6, _⟩ := HP6.out.ints_at (by omega)
                      have hcx := hc6 t htl
                      rw [← hx] at hcx
                      injection hv6 with e1 e2 e3
                      subst e1
                      have hia := ldInv_takeAll HI3.out.1 m (xs.take t)
                      have hwa := takeAll_words l3 m (xs.take t)
                      have hmxx := HMX.out x (by rw [hx]; exact List.getElem_mem htl)
                      have he := ldErr_in (l := takeAll l3 m (xs.take t)) (who := m) (a := x) (by rw [hia.len]; exact HINR.out) hmxx.1 (by rw [hwa]; exact hmxx.2)
                      have hsn : takeAll l3 m (xs.take (t + 1)) = ldTake (takeAll l3 m (xs.take t)) m x := by
                        rw [List.take_succ_eq_append_getElem htl, takeAll_snoc, hx]
                      have HC6 := Lib.hid hc6
                      have HX := Lib.hid hx; have HIA := Lib.hid hia; have HWA := Lib.hid hwa; have HE := Lib.hid he; have HSN := Lib.hid hsn; have HMXX := Lib.hid hmxx
                      clear hx hia hwa he hsn hmxx
                      clear hc6 e2 e3
                      go_wp2_with fail
                      refine (ldTake_any p _ (m : Int) x HIA.out.fit (HP6.out.perm (star_left_comm _ _ _))).mono ?_
                      rintro e w7 ⟨v7, rfl, ho⟩
                      rw [HE.out, errV0]
                      have HO7 := Lib.hid (ho.drop.perm (star_left_comm _ _ _))
                      clear ho hcx
                      go_wp2
                      exact ⟨⟨t + 1, by omega, by go_num, by rw [HSN.out]; exact HO7⟩, by simp [intOf] <;> omega⟩
                    · have htx : xs.take t = xs := List.take_of_length_le (by omega)
                      have hp6 := HP6.out.drop
                      rw [htx] at hp6
                      have hia := ldInv_takeAll HI3.out.1 m xs
                      have hwa := takeAll_words l3 m xs
                      have hin7 : inErr (m : Int) (takeAll l3 m xs).mem.length = 0 := by rw [hia.len]; simp [inErr, HINR.out]
                      have HP6 := Lib.hid hp6
                      have HTX := Lib.hid htx; have HIA := Lib.hid hia; have HWA := Lib.hid hwa; have HIN7 := Lib.hid hin7
                      clear htx hia hwa hin7
                      clear hp6
                      go_wp2_with fail
                      refine (ldHeard_any p _ (m : Int) HIA.out.fit HP6.out).mono ?_
                      rintro e w8 ⟨v8, rfl, ho⟩
                      rw [HIN7.out, errV0]
                      rw [HEND.out, HI3.out.2] at ho
                      have hw8 : ∀ x ∈ l.words, I64 x := fun x hx => by have := HI.out.fit.2.1 x hx; unfold I64; omega
                      have hr1 : Ints w8 v8 l.words := ⟨Own.rd ho, hw8⟩
                      have hr2 : Ints w8 (.slice ad l.words.length cp) l.words := ⟨by have h := ho.drop.drop; exact Own.rd h, hw8⟩
                      have HO8 := Lib.hid (ho.drop.perm (star_left_comm _ _ _))
                      have hbq : (l.words == l.words) = true := by simp
                      have HR1 := Lib.hid hr1; have HR2 := Lib.hid hr2; have HBQ := Lib.hid hbq
                      clear hr1 hr2 hbq
                      clear ho hw8
                      go_wp2_with fail
                      refine (sameInts_any _ _ _ _ _ HR1.out HR2.out).mono ?_
                      rintro e w9 ⟨rfl, nd, rfl⟩
                      rw [HBQ.out]
                      go_wp2
                      exact ⟨⟨m + 1, takeAll l3 m xs, by omega, by go_num, ⟨HIA.out, by rw [HWA.out, HI3.out.2]⟩, Lib.hid (HO8.out.drewN _)⟩, by simp [intOf] <;> omega⟩
                · have hbel := HP3.out.below
                  go_wp2
                  go_ret
                  exact ⟨rfl, hbel⟩
end Go.Proofs.Ytclapdicocbnoaa
