/- StableRises: what all have heard, all have heard. -/
import Derived.Test.YtclapdicocbnoaaStable4
import Derived.Test.YtclapdicocbnoaaSet
import Derived.Test.YtclapdicocbnoaaLeaderBack
import Derived.Test.YtclapdicocbnoaaPlan
namespace Go.Proofs.Ytclapdicocbnoaa
set_option linter.unusedVariables false
set_option linter.unusedSimpArgs false
open Go.RowKit
def sr1 : List Int := [3, 1, 0, 0, 0]
def sr2 : List Int := [2, 5, 0, 0, 0]
def srA : List (List Int) := toldRows (List.replicate 2 zero5) (0 : Nat) sr1
def srB : List (List Int) := toldRows srA (1 : Nat) sr2
theorem sr_facts : toldErr (List.replicate 2 zero5).length (0 : Nat) sr1 = 0 ∧ toldErr srA.length (1 : Nat) sr2 = 0 ∧ leastOf srB = [2, 1, 0, 0, 0] ∧ srA.length = 2 ∧ srB.length = 2 := by decide
theorem srA_ok : rowsOk srA := toldRows_ok (rowsOk_zero 2) _ _
theorem srB_ok : rowsOk srB := toldRows_ok srA_ok _ _
theorem Own.five {w0 w : World} {b : Nat} {R : HProp} (l : List Int) (h5 : l.length = 5) (h : Own w0 (blk b (.cells (l.map (Value.int .i64)).toArray 3 (0, 0)) * R) w) : Own w0 (IntSl (.slice (some ⟨b, 0, none⟩) 5 5) l * R) w := by
  unfold IntSl
  rw [h5]
  exact Own.sl_mk (Nat.le_refl _) (by unfold maxLen; omega) (by simp [h5]) (by simp [h5]) (fun i hi => by simp) h
theorem Own.skip {w0 w : World} {P Q R : HProp} (h : Own w0 (P * (Q * R)) w) : Own w0 (P * R) w := (h.perm (star_left_comm _ _ _)).drop
set_option maxRecDepth 100000 in
set_option maxHeartbeats 4000000 in
theorem stableRises_law (w : World) (n : Int) (_hn : I64 n) (vw : Value) (who : List Int) (hvw : Ints w vw who) (vl : Value) (l : List (List Int)) (hvl : Rows2 w vl l) (many : Int) (_hm : I64 many) :
    Calls Try.prog 14 #[.int .i64 n, vw, vl, .int .i64 many] w fun e w' => e = .returned (.bool true) ∧ Below w.heap.size w w' := by
  obtain ⟨wad, wcap, rfl, hwc1, hwc2⟩ := hvw.shape
  obtain ⟨lad, lcap, rfl, hlc1, hlc2⟩ := hvl.shape
  have F := Lib.hid sr_facts
  have hg2 : isGroup (2 : Nat) = true := by decide
  have HVW := Lib.hid hvw; have HVL := Lib.hid hvl; have HG2 := Lib.hid hg2
  clear hvw hvl hg2
  go_enter Try.func14, Try.ntmps14
  go_wp2_with fail
  refine (stableNew_yes 2 HG2.out (Own.start w)).mono ?_
  rintro e w' ⟨q, rfl, ho⟩
  rw [errV0]
  have ho1 := ((ho.alloc (.cells (sr1.map (Value.int .i64)).toArray 3)).five sr1 rfl).perm (star_left_comm _ _ _)
  have HO1 := Lib.hid ho1
  clear ho ho1
  go_wp2_with fail
  refine (told_any q _ ((0 : Nat) : Int) _ sr1 (rowsOk_zero 2) (by decide) HO1.out (IntSl_reads (vecErr_I64 (by decide)))).mono ?_
  rintro e wa ⟨rfl, ho⟩
  rw [F.out.1, errV0]
  have ho2 := ((ho.alloc (.cells (sr2.map (Value.int .i64)).toArray 3)).five sr2 rfl).perm (star_left_comm _ _ _)
  have HO2 := Lib.hid ho2
  clear ho ho2
  go_wp2_with fail
  refine (told_any q srA ((1 : Nat) : Int) _ sr2 srA_ok (by decide) HO2.out (IntSl_reads (vecErr_I64 (by decide)))).mono ?_
  rintro e wb ⟨rfl, ho⟩
  rw [F.out.2.1, errV0]
  have HO3 := Lib.hid ho
  clear ho
  go_wp2_with fail
  refine (least_any q srB srB_ok (by decide) HO3.out).mono ?_
  rintro e wc ⟨v1, rfl, ho⟩
  rw [F.out.2.2.1] at ho
  obtain ⟨b1, off1, cap1, hv1, hc1, _, hcell, _⟩ := ho.ints_at (by decide)
  have k0 : wc.cell? ⟨b1, off1, none⟩ = some (.int .i64 2) := hcell 0 (by decide)
  have k1 : wc.cell? ⟨b1, off1 + 1, none⟩ = some (.int .i64 1) := hcell 1 (by decide)
  have hv1' : v1 = .slice (some ⟨b1, off1, none⟩) 5 cap1 := hv1
  have hc1' : 5 ≤ cap1 := hc1
  subst hv1'
  have HO4 := Lib.hid (ho.drop.drop.drop.drop)
  clear ho hcell hv1 hc1
  cases hgn : isGroup n
  · have HGN := Lib.hid hgn
    clear hgn
    go_wp2_with fail
    refine (stableNew_no _ HGN.out).mono ?_
    rintro e w' ⟨rfl, rfl⟩
    rw [show errV 1 = .iface 31 (.int .i64 1) from rfl]
    go_wp2
    go_ret
    exact ⟨rfl, HO4.out.below⟩
  have hb : 2 ≤ n ∧ n ≤ 5 := by simp [isGroup] at hgn; omega
  obtain ⟨N, rfl⟩ := Int.eq_ofNat_of_zero_le (show 0 ≤ n by omega)
  have hN2 : 2 ≤ N := by omega
  have hN5 : N ≤ 5 := by omega
  have HGN := Lib.hid hgn
  clear hgn
  clear hb
  go_wp2_with fail
  refine (stableNew_yes N HGN.out HO4.out).mono ?_
  rintro e w' ⟨p, rfl, ho⟩
  rw [errV0]
  have HO5 := Lib.hid ho
  clear ho HO1 HO2 HO3 HO4 k0 k1 hwc2 hlc2
  go_wp2_with fail
  go_loopw [14] (fun i wr => ∃ (k : Nat) (rows : List (List Int)), k ≤ who.length ∧ k ≤ 60 ∧ i = .int .i64 k ∧ Hid (rowsOk rows ∧ rows.length = N) ∧ Hid (Own w (StableP p rows * emp) wr)) (fun i _ => who.length - (intOf i).toNat)
  case atStart => exact ⟨0, _, Nat.zero_le _, by decide, rfl, Lib.hid ⟨rowsOk_zero N, by simp⟩, HO5⟩
  case round =>
    obtain ⟨k, rows, hk, hk60, rfl, hf, hp⟩ := hrel
    by_cases hkw : k < who.length
    rotate_left
    · go_wp2
      go_ret
      exact ⟨rfl, hp.out.below⟩
    by_cases hkl : k < l.length
    rotate_left
    · go_wp2
      go_ret
      exact ⟨rfl, hp.out.below⟩
    by_cases hk6 : k < 60
    rotate_left
    · go_wp2
      go_ret
      exact ⟨rfl, hp.out.below⟩
    obtain ⟨a1, e1, hc1⟩ := HVW.out.at_later k hkw
    obtain ⟨a2, ad2, cap2, e2, hr2, hc2⟩ := HVL.out.at_later k hkl
    obtain ⟨x, hx⟩ : ∃ x, x = who[k] := ⟨_, rfl⟩
    obtain ⟨v, hv⟩ : ∃ v, v = l[k] := ⟨_, rfl⟩
    rw [← hx] at hc1
    rw [← hv] at hc2 hr2
    subst e1 e2
    have HC1 := Lib.hid hc1; have HC2 := Lib.hid hc2; have HR2 := Lib.hid hr2
    clear hc1 hc2 hr2 hx hv
    have hne := Lib.hid (show 0 < rows.length by have := hf.out.2; omega)
    go_wp2_with fail
    refine (least_any p rows hf.out.1 hne.out hp.out).mono ?_
    rintro e w' ⟨v1, rfl, ho⟩
    have HO6 := Lib.hid ho
    have c1 := HC1.out _ _ HO6.out
    clear ho hp
    go_wp2_with fail
    refine (row_any p rows x hf.out.1 hne.out (HO6.out.perm (star_left_comm _ _ _))).mono ?_
    rintro e w' ⟨v2, rfl, ho⟩
    have HO7 := Lib.hid (ho.perm (star_left_comm _ _ _))
    clear ho HO6 c1
    have c1 := HC1.out _ _ HO7.out
    have c2 := HC2.out _ _ HO7.out
    have hls := Lib.hid (vecErr_I64 (vecErr_least hf.out.1 hne.out))
    by_cases he : toldErr N x v = 0
    rotate_left
    · obtain ⟨en, hen⟩ := errV_some he
      have ht : toldRows rows x v = rows := by unfold toldRows; rw [hf.out.2, if_neg he]
      have HEN := Lib.hid hen; have HT := Lib.hid ht; have HE := Lib.hid he
      clear hen ht he
      go_wp2_with fail
      refine wp_region_tail 9 (by kernel_rfl) (by kernel_rfl) ?_
      simp only [List.take_succ_cons, List.take_zero, List.drop_succ_cons, List.drop_zero]
      repeat still_step
      refine wpStill_nil ?_
      go_wp2_with fail
      refine (told_any p rows x _ v hf.out.1 hne.out HO7.out.drew HR2.out.reads).mono ?_
      rintro e w8 ⟨rfl, ho⟩
      rw [hf.out.2, HEN.out]
      rw [HT.out] at ho
      have HO8 := Lib.hid ho
      clear ho c1 c2
      go_wp2_with fail
      refine (least_any p rows hf.out.1 hne.out HO8.out).mono ?_
      rintro e w' ⟨v3, rfl, ho⟩
      have HO9 := Lib.hid ho
      clear ho
      go_wp2_with fail
      refine (sameInts_any v3 v1 _ _ _ (IntSl_reads hls.out _ HO9.out) (((IntSl_reads hls.out).more).more.more _ HO9.out)).mono ?_
      rintro e w' ⟨rfl, n10, rfl⟩
      rw [show (leastOf rows == leastOf rows) = true from beq_iff_eq.2 rfl]
      go_wp2
      go_roundw
      case rel => exact ⟨k + 1, rows, by omega, by omega, by go_num, hf, Lib.hid (HO9.out.drop.skip.skip.drewN _)⟩
      case measure => simp [intOf]; omega
    have hin : inR x N = true := by
      unfold toldErr at he
      cases h : inR x N
      · rw [h] at he; simp at he
      · rfl
    have hx2 : 0 ≤ x ∧ x < N := by simpa [inR] using hin
    obtain ⟨m, rfl⟩ := Int.eq_ofNat_of_zero_le hx2.1
    have hm : m < N := by omega
    have hR := rises hf.out.1 hne.out (k := m) (by have := hf.out.2; omega) (v := v) (by rw [hf.out.2]; exact he)
    obtain ⟨T, hT⟩ : ∃ T, T = toldRows rows (m : Int) v := ⟨_, rfl⟩
    rw [← hT] at hR
    have hTok : rowsOk T := by rw [hT]; exact toldRows_ok hf.out.1 _ _
    have hTn : T.length = N := by rw [hT, toldRows_len]; exact hf.out.2
    have hLv : vecErr v = 0 := by unfold toldErr at he; rw [hin] at he; simpa using he
    have hTne : 0 < T.length := by omega
    have hme : inErr m T.length = 0 := by unfold inErr; rw [hTn, hin]; rfl
    have hme0 : inErr m rows.length = 0 := by unfold inErr; rw [hf.out.2, hin]; rfl
    have hr1 := vecErr_row hf.out.1 (m := m) (by have := hf.out.2; omega)
    have hr2v := vecErr_row hTok (m := m) (by omega)
    have hl1 := vecErr_least hf.out.1 hne.out
    have hl2 := vecErr_least hTok hTne
    obtain ⟨L1, hL1⟩ : ∃ L, L = leastOf rows := ⟨_, rfl⟩
    obtain ⟨L2, hL2⟩ : ∃ L, L = leastOf T := ⟨_, rfl⟩
    have hl2x := hL2
    obtain ⟨r1, hr1e⟩ : ∃ L, L = rowOf rows m := ⟨_, rfl⟩
    obtain ⟨r2, hr2e⟩ : ∃ L, L = rowOf T m := ⟨_, rfl⟩
    rw [← hL1, ← hL2, ← hr1e, ← hr2e] at hR
    rw [← hr1e] at hr1
    rw [← hr2e] at hr2v
    rw [← hL1] at hl1
    rw [← hL2] at hl2
    have ho7 := HO7.out
    rw [← hr1e, ← hL1] at ho7
    have HO7' := Lib.hid ho7
    clear ho7 HO7
    have b1 : bothErr L1 L2 = 0 := by unfold bothErr; rw [if_pos hl1]; exact hl2
    have b2 : bothErr r1 r2 = 0 := by unfold bothErr; rw [if_pos hr1]; exact hr2v
    have b3 : bothErr v r2 = 0 := by unfold bothErr; rw [if_pos hLv]; exact hr2v
    have q1 : (bothErr L1 L2 == 0 && leq L1 L2) = true := by rw [b1, hR.1]; rfl
    have q2 : (bothErr r1 r2 == 0 && leq r1 r2) = true := by rw [b2, hR.2.1]; rfl
    have q3 : (bothErr v r2 == 0 && leq v r2) = true := by rw [b3, hR.2.2.1]; rfl
    have HL2X := Lib.hid hl2x; have HE := Lib.hid he; have HT := Lib.hid hT; have HTOK := Lib.hid hTok; have HTN := Lib.hid hTn; have HLV := Lib.hid hLv; have HTNE := Lib.hid hTne; have HME := Lib.hid hme; have HME0 := Lib.hid hme0; have HR1 := Lib.hid hr1; have HR2V := Lib.hid hr2v; have HL1 := Lib.hid hl1; have HL2 := Lib.hid hl2; have HR1E := Lib.hid hr1e; have HR2E := Lib.hid hr2e; have B1 := Lib.hid b1; have B2 := Lib.hid b2; have B3 := Lib.hid b3; have Q1 := Lib.hid q1; have Q2 := Lib.hid q2; have Q3 := Lib.hid q3; have HR := Lib.hid hR
    clear hl2x he hT hTok hTn hLv hTne hme hme0 hr1 hr2v hl1 hl2 hr1e hr2e b1 b2 b3 q1 q2 q3 hR
    clear hls hx2 hin
    rw [HME0.out, errV0]
    go_wp2_with fail
    refine wp_region_tail 9 (by kernel_rfl) (by kernel_rfl) ?_
    simp only [List.take_succ_cons, List.take_zero, List.drop_succ_cons, List.drop_zero]
    repeat still_step
    refine wpStill_nil ?_
    go_wp2_with fail
    refine (told_any p rows m _ v hf.out.1 hne.out HO7'.out.drew HR2.out.reads).mono ?_
    rintro e w8 ⟨rfl, ho⟩
    rw [hf.out.2, HE.out, errV0]
    rw [← HT.out] at ho
    have HO8 := Lib.hid ho
    clear ho c1 c2 HO7'
    go_wp2_with fail
    refine (least_any p T HTOK.out HTNE.out HO8.out).mono ?_
    rintro e w' ⟨v3, rfl, ho⟩
    rw [← hL2] at ho
    have HO9 := Lib.hid (ho.perm (star_left_comm _ _ _))
    have c1 := HC1.out _ _ HO9.out
    clear ho HO8
    go_wp2_with fail
    refine (row_any p T m HTOK.out HTNE.out HO9.out).mono ?_
    rintro e w' ⟨v4, rfl, ho⟩
    rw [HME.out, errV0]
    rw [← HR2E.out] at ho
    have HO10 := Lib.hid ho
    have c2 := HC2.out _ _ HO10.out
    clear ho HO9 c1
    go_wp2_with fail
    refine (leq_any v1 v3 L1 L2 _ ((IntSl_reads (vecErr_I64 HL1.out)).more.more.more.more _ HO10.out) ((IntSl_reads (vecErr_I64 HL2.out)).more.more _ HO10.out)).mono ?_
    rintro e w' ⟨rfl, rfl⟩
    rw [Q1.out, B1.out, errV0]
    go_wp2_with fail
    refine (leq_any v2 v4 r1 r2 _ ((IntSl_reads (vecErr_I64 HR1.out)).more.more.more _ HO10.out) (IntSl_reads (vecErr_I64 HR2V.out) _ HO10.out)).mono ?_
    rintro e w' ⟨rfl, rfl⟩
    rw [Q2.out, B2.out, errV0]
    go_wp2_with fail
    refine (leq_any _ v4 v r2 _ (HR2.out.later HO10.out) (IntSl_reads (vecErr_I64 HR2V.out) _ HO10.out)).mono ?_
    rintro e w' ⟨rfl, rfl⟩
    rw [Q3.out, B3.out, errV0]
    have HO11 := Lib.hid (HO10.out.perm (star_left_comm _ _ _))
    clear HO10 c2
    have c1 := HC1.out _ _ HO11.out
    have c2 := HC2.out _ _ HO11.out
    go_wp2_with fail
    refine wp_region_plan 40 [40, 41, 42, 43, 44, 46, 45, 47, 48, 49] (by kernel_rfl) (by kernel_rfl) ?_
    simp only [List.take_succ_cons, List.take_zero, pick, List.getElem?_cons_succ, List.getElem?_cons_zero, Option.toList, List.cons_append, List.nil_append]
    repeat still_step
    refine wpStill_nil ?_
    go_wp2_with fail
    refine (told_any p T m _ v HTOK.out HTNE.out HO11.out.drew HR2.out.reads).mono ?_
    rintro e w12 ⟨rfl, ho⟩
    rw [HR.out.2.2.2.2, errV0]
    rw [HR.out.2.2.2.1] at ho
    have HO12 := Lib.hid ho
    clear ho c1 c2 HO11
    go_wp2_with fail
    refine (least_any p T HTOK.out HTNE.out HO12.out).mono ?_
    rintro e w' ⟨v5, rfl, ho⟩
    rw [← hL2] at ho
    have HO13 := Lib.hid ho
    clear ho HO12
    go_wp2_with fail
    refine (sameInts_any v5 v3 _ _ _ (IntSl_reads (vecErr_I64 HL2.out) _ HO13.out) ((IntSl_reads (vecErr_I64 HL2.out)).more.more.more _ HO13.out)).mono ?_
    rintro e w' ⟨rfl, n10, rfl⟩
    rw [show (L2 == L2) = true from beq_iff_eq.2 rfl]
    have HO14 := Lib.hid (HO13.out.drop.perm (show _ = IntSl v4 r2 * (IntSl v2 r1 * (IntSl v1 L1 * (StableP p T * (IntSl v3 L2 * emp)))) by ac_rfl)).drop.drop.drop
    clear HO13
    go_wp2_with fail
    refine NoPanic.normal ?_
    go_wp2_with fail
    have hL5 : L2.length = 5 := (vecErr0 HL2.out).1
    have hdec := Lib.hid (show decide (0 < N) = true by simp; omega)
    go_loopw [27] (fun mv wr => ∃ j : Nat, j ≤ N ∧ mv = .int .i64 j ∧ Hid (Own w (StableP p T * (IntSl v3 L2 * emp)) wr)) (fun mv _ => N - (intOf mv).toNat)
    case atStart => exact ⟨0, Nat.zero_le _, rfl, Lib.hid (HO14.out.drewN _)⟩
    case round =>
      obtain ⟨j, hj, rfl, hp2⟩ := hrel
      by_cases hjn : j < N
      rotate_left
      · go_wp2_with fail
        go_roundw
        case rel => exact ⟨k + 1, T, by omega, by omega, by go_num, Lib.hid ⟨HTOK.out, HTN.out⟩, Lib.hid hp2.out.skip⟩
        case measure => simp [intOf]; omega
      have hjT := Lib.hid (show j < T.length by rw [HTN.out]; exact hjn)
      obtain ⟨rj, hrj⟩ : ∃ L, L = rowOf T j := ⟨_, rfl⟩
      have hrv : vecErr rj = 0 := by rw [hrj]; exact vecErr_row HTOK.out hjT.out
      have hlb : leq L2 rj = true := by rw [hrj, HL2X.out]; exact least_below HTOK.out HTNE.out hjT.out
      have hb4 : bothErr L2 rj = 0 := by unfold bothErr; rw [if_pos HL2.out]; exact hrv
      have hq4 : (bothErr L2 rj == 0 && leq L2 rj) = true := by rw [hb4, hlb]; rfl
      have hij : inErr (j : Int) T.length = 0 := by unfold inErr; rw [if_pos]; simp [inR]; exact hjT.out
      have hr5 : rj.length = 5 := (vecErr0 hrv).1
      have HRJ := Lib.hid hrj; have HRV := Lib.hid hrv; have HLB := Lib.hid hlb; have HB4 := Lib.hid hb4; have HQ4 := Lib.hid hq4; have HIJ := Lib.hid hij; have HR5 := Lib.hid hr5
      clear hrj hrv hlb hb4 hq4 hij hr5
      go_wp2_with fail
      refine (row_any p T j HTOK.out HTNE.out hp2.out).mono ?_
      rintro e w' ⟨v6, rfl, ho⟩
      rw [HIJ.out, errV0]
      rw [← HRJ.out] at ho
      have HP3 := Lib.hid ho
      clear ho hp2
      go_wp2_with fail
      refine (leq_any v3 v6 L2 rj _ ((IntSl_reads (vecErr_I64 HL2.out)).more.more _ HP3.out) (IntSl_reads (vecErr_I64 HRV.out) _ HP3.out)).mono ?_
      rintro e w' ⟨rfl, rfl⟩
      rw [HQ4.out, HB4.out, errV0]
      have c1 := HC1.out _ _ HP3.out
      have HP4 := Lib.hid (HP3.out.perm (star_left_comm _ _ _))
      clear HP3
      go_wp2_with fail
      refine (may_any p T m many HTOK.out HTNE.out (by rw [HTN.out]; exact hN5) HP4.out).mono ?_
      rintro e w15 ⟨rfl, ho⟩
      have HP5 := Lib.hid (ho.perm (star_left_comm _ _ _))
      clear ho c1 HP4
      have c1 := HC1.out _ _ HP5.out
      obtain ⟨mt, hmt⟩ : ∃ b, b = mayIs T m many := ⟨_, rfl⟩
      obtain ⟨me, hme⟩ : ∃ n, n = mayErr T.length m many := ⟨_, rfl⟩
      rw [← hmt, ← hme]
      obtain ⟨b6, off6, cap6, hv6, hcc, _, hcell, _⟩ := HP5.out.ints_at (by rw [HR5.out]; omega)
      have hm5 : m < 5 := by omega
      have hck := hcell m (by rw [HR5.out]; exact hm5)
      rw [HR5.out] at hv6 hcc
      subst hv6
      obtain ⟨y, hy⟩ : ∃ y, y = rj[m]'(by rw [HR5.out]; exact hm5) := ⟨_, rfl⟩
      rw [← hy] at hck
      have hfin : me = 0 → mt = true → many ≤ y := fun h1 h2 => by
        rw [hmt] at h2
        unfold mayIs at h2
        rw [if_pos (hme ▸ h1)] at h2
        have h3 := (leq_iff L2 rj (by rw [HR5.out]; exact hL5)).1 HLB.out m (by omega) (by rw [HR5.out]; exact hm5)
        rw [← hy] at h3
        have h4 : (leastOf T).getD m 0 = L2[m]'(by omega) := by rw [← HL2X.out, List.getD_eq_getElem?_getD, List.getElem?_eq_getElem (by omega)]; rfl
        rw [Int.toNat_natCast, h4] at h2
        have := of_decide_eq_true h2
        omega
      have HMT := Lib.hid hmt; have HME := Lib.hid hme; have HFIN := Lib.hid hfin; have HY := Lib.hid hy
      clear hmt hme hfin hy
      clear hcell
      have HP6 : Hid (Own w (StableP p T * (IntSl v3 L2 * emp)) w15) := Lib.hid HP5.out.drop
      by_cases hme0 : me = 0
      rotate_left
      · obtain ⟨en, hen⟩ := errV_some hme0
        rw [hen]
        clear hen
        go_wp2_with fail
        go_roundw
        case rel => exact ⟨j + 1, by omega, by go_num, HP6⟩
        case measure => simp [intOf]; omega
      subst hme0
      rw [errV0]
      cases mt
      · go_wp2_with fail
        go_roundw
        case rel => exact ⟨j + 1, by omega, by go_num, HP6⟩
        case measure => simp [intOf]; omega
      · have hnl := Lib.hid (HFIN.out rfl rfl)
        have hdl : decide (y < many) = false := by have := hnl.out; simp; omega
        go_wp2_with fail
        go_roundw
        case rel => exact ⟨j + 1, by omega, by go_num, HP6⟩
        case measure => simp [intOf]; omega
end Go.Proofs.Ytclapdicocbnoaa
