/- ClockTells: the vectors and numbers of any history, and an order of all events, are the reference's. -/
import Derived.Test.YtljlnhbndkdlcaaDoorMClockTells10
import Derived.Test.YtljlnhbndkdlcaaDoorMClockTells11
import Derived.Test.YtljlnhbndkdlcaaDoorMClockTells13
import Derived.Test.YtljlnhbndkdlcaaDoorMClockTells14
import Derived.Test.YtljlnhbndkdlcaaDoorMClockTells15
import Derived.Test.YtljlnhbndkdlcaaDoorRows
import Derived.ProofKit
import Derived.KernelRfl
namespace Go.Proofs.YtljlnhbndkdlcaaDoor
set_option linter.unusedVariables false
set_option linter.unusedSimpArgs false
open Go.RowKit
def CtO (w : World) (ov nv vv : Value) (o : List Nat) (hs : List Ev) (rs : List (Value × List Int)) (wr : World) : Prop := Own w (IntSl ov (natsI o) * (IntSl nv (numsR hs) * (LSl vv rs * emp))) wr
theorem ct_same (n : Nat) : ((n : Int) == (n : Int)) = true := by simp
theorem nums_I64 {hs : List Ev} (hr : RightH hs) : ∀ x ∈ numsR hs, I64 x := fun x hx => by
  have := (numState_bound hs hs.length).1 x hx
  have := hr.1
  unfold I64; omega
theorem vecs_I64 {hs : List Ev} (hr : RightH hs) : ∀ l ∈ vecsR hs, ∀ x ∈ l, I64 x := fun l hl => by
  rw [vecsR_all] at hl
  obtain ⟨i, hi, rfl⟩ := List.mem_map.1 hl
  have := hr.1
  exact vecIn_I64 (vecAt_in hr (List.mem_range.1 hi)) (by omega)
noncomputable def ctCell_code : Code := ((Tryd.f5.body.bind (findBlock 5)).getD .skip)
set_option maxRecDepth 1000000 in
set_option maxHeartbeats 4000000 in
theorem ctCell {Q : Exit → Act → World → Prop} {u1 u2 u3 u4 u10 u11 u12 u13 u14 u15 u16 u17 u18 u19 u20 u21 u22 u23 u24 u25 u26 u27 u28 u29 u30 u31 u32 u33 u34 u35 u36 u37 u38 u39 u40 u41 u42 u43 u44 u45 u46 u47 u48 u49 u50 u51 u52 u53 u54 u55 u56 u57 u58 u59 u60 u61 u62 u63 u64 u65 u66 u67 u68 u69 u70 u71 u72 u73 u74 u75 u76 u77 u78 u79 u80 u81 u82 u83 u84 u85 u86 u87 u88 u89 u90 u91 u92 u93 u94 u95 u96 u97 u98 u99 u100 u101 u102 u103 u104 u105 u106 u107 : Value} {w1 : World} (w : World) (n i m x hcap ncap nb noff : Nat) (had : Option Addr) (hs : List Ev) (o : List Nat) (ov vv : Value) (rs : List (Value × List Int)) (hi : i < n) (hm : m ≤ 60) (hx : x ≤ 5) (hn : n ≤ 60) (hc1 : n ≤ hcap) (hnc : n ≤ ncap) (HN : Hid (n = hs.length)) (HV : Hid (ReadsE w emp (.slice had n hcap) hs)) (HR : Hid (RightH hs)) (HO : Hid (CtO w ov (.slice (some ⟨nb, noff, none⟩) n ncap) vv (ordL hs m x i) hs rs w1))
    (hK : ∀ (v6 v43 v44 v45 v46 v47 v48 v49 v50 v51 v52 v53 v54 v55 v56 v57 v58 v59 v60 v61 : Value) (wx : World), (CtO w v6 (.slice (some ⟨nb, noff, none⟩) n ncap) vv (ordL hs m x (i + 1)) hs rs wx) → Q .normal ⟨List.toArray ((.slice had n hcap) :: u1 :: u2 :: u3 :: u4 :: (.slice (some ⟨nb, noff, none⟩) n ncap) :: v6 :: (.int .i64 ((m : Int) + 1)) :: (.int .i64 (x : Int)) :: (.int .i64 (i : Int)) :: u10 :: u11 :: u12 :: u13 :: u14 :: u15 :: u16 :: u17 :: u18 :: u19 :: u20 :: u21 :: u22 :: u23 :: u24 :: u25 :: u26 :: u27 :: u28 :: u29 :: u30 :: u31 :: u32 :: u33 :: u34 :: u35 :: u36 :: u37 :: u38 :: u39 :: u40 :: u41 :: u42 :: v43 :: v44 :: v45 :: v46 :: v47 :: v48 :: v49 :: v50 :: v51 :: v52 :: v53 :: v54 :: v55 :: v56 :: v57 :: v58 :: v59 :: v60 :: v61 :: u62 :: u63 :: u64 :: u65 :: u66 :: u67 :: u68 :: u69 :: u70 :: u71 :: u72 :: u73 :: u74 :: u75 :: u76 :: u77 :: u78 :: u79 :: u80 :: u81 :: u82 :: u83 :: u84 :: u85 :: u86 :: u87 :: u88 :: u89 :: u90 :: u91 :: u92 :: u93 :: u94 :: u95 :: u96 :: u97 :: u98 :: u99 :: u100 :: u101 :: u102 :: u103 :: u104 :: u105 :: u106 :: u107 :: []), []⟩ wx) :
    Code.wp Tryd.prog ctCell_code Q ⟨List.toArray ((.slice had n hcap) :: u1 :: u2 :: u3 :: u4 :: (.slice (some ⟨nb, noff, none⟩) n ncap) :: (ov) :: (.int .i64 ((m : Int) + 1)) :: (.int .i64 (x : Int)) :: (.int .i64 (i : Int)) :: u10 :: u11 :: u12 :: u13 :: u14 :: u15 :: u16 :: u17 :: u18 :: u19 :: u20 :: u21 :: u22 :: u23 :: u24 :: u25 :: u26 :: u27 :: u28 :: u29 :: u30 :: u31 :: u32 :: u33 :: u34 :: u35 :: u36 :: u37 :: u38 :: u39 :: u40 :: u41 :: u42 :: u43 :: u44 :: u45 :: u46 :: u47 :: u48 :: u49 :: u50 :: u51 :: u52 :: u53 :: u54 :: u55 :: u56 :: u57 :: u58 :: u59 :: u60 :: u61 :: u62 :: u63 :: u64 :: u65 :: u66 :: u67 :: u68 :: u69 :: u70 :: u71 :: u72 :: u73 :: u74 :: u75 :: u76 :: u77 :: u78 :: u79 :: u80 :: u81 :: u82 :: u83 :: u84 :: u85 :: u86 :: u87 :: u88 :: u89 :: u90 :: u91 :: u92 :: u93 :: u94 :: u95 :: u96 :: u97 :: u98 :: u99 :: u100 :: u101 :: u102 :: u103 :: u104 :: u105 :: u106 :: u107 :: []), []⟩ w1 := by
  conv => arg 2; whnf
  have HK := Lib.hid hK
  clear hK
  have hil : i < hs.length := by rw [← HN.out]; exact hi
  obtain ⟨aa, pb, po, ps, e1, hea, hcs, _⟩ := HV.out.at (HO.out.drop.drop.drop) i hil
  subst e1
  obtain ⟨c0, c1, c2⟩ := hcs _ HO.out.drop.drop.drop
  have hnl : (numsR hs).length = n := by rw [HN.out]; exact (numState_len hs _).1
  obtain ⟨nb', noff', ncap', e3, _, _, hncell, _⟩ := (Own.second HO.out).ints_at (by rw [hnl]; omega)
  rw [hnl] at e3
  cases e3
  have n1 := hncell i (by rw [hnl]; exact hi)
  have g1 : (numsR hs)[i]'(by rw [hnl]; exact hi) = nAt hs i := by
    unfold nAt; rw [List.getD_eq_getElem?_getD, List.getElem?_eq_getElem (by rw [hnl]; exact hi)]; rfl
  rw [g1] at n1
  obtain ⟨u, hu⟩ : ∃ u, u = nAt hs i := ⟨_, rfl⟩
  rw [← hu] at n1
  obtain ⟨y, hy⟩ : ∃ u, u = (evAt hs i).1 := ⟨_, rfl⟩
  rw [← hy] at c0
  have i0 : (0 : Int) ≤ (i : Int) := by omega
  have iN : (i : Int) < (n : Int) := by omega
  clear hncell g1 hnl hcs
  by_cases h1 : u = (m : Int) + 1
  rotate_left
  · have t1 : (u == (m : Int) + 1) = false := by rw [beq_eq_false_iff_ne]; exact h1
    have HE : Hid (ordL hs m x (i + 1) = ordL hs m x i) := Lib.hid (ordL_skip (fun h => h1 (by rw [hu]; exact h.1)))
    have H1 := Lib.hid h1; have HU := Lib.hid hu; have HY := Lib.hid hy
    clear h1 hu hy
    go_wp2_with fail
    apply HK.out
    rw [HE.out]
    exact HO.out
  have t1 : (u == (m : Int) + 1) = true := by rw [beq_iff_eq]; exact h1
  by_cases h2 : y = (x : Int)
  rotate_left
  · have t2 : (y == (x : Int)) = false := by rw [beq_eq_false_iff_ne]; exact h2
    have HE : Hid (ordL hs m x (i + 1) = ordL hs m x i) := Lib.hid (ordL_skip (fun h => h2 (by rw [hy]; exact h.2)))
    have H1 := Lib.hid h1; have H2 := Lib.hid h2; have HU := Lib.hid hu; have HY := Lib.hid hy
    clear h1 h2 hu hy
    go_wp2_with fail
    apply HK.out
    rw [HE.out]
    exact HO.out
  have t2 : (y == (x : Int)) = true := by rw [beq_iff_eq]; exact h2
  have HE : Hid (ordL hs m x (i + 1) = ordL hs m x i ++ [i]) := Lib.hid (ordL_put (by rw [← hu]; exact h1) (by rw [← hy]; exact h2))
  have hol : (natsI (ordL hs m x i)).length ≤ 1000000 := by
    have := ordL_len hs (k := m) (w := x) (i := i) hm hx (by omega) HR.out.1
    rw [natsI_len]; omega
  obtain ⟨L, hL⟩ : ∃ L, L = natsI (ordL hs m x i) := ⟨_, rfl⟩
  have HP : Hid (Own w (IntSl ov L * (IntSl (.slice (some ⟨nb, noff, none⟩) n ncap) (numsR hs) * (LSl vv rs * emp))) w1) := Lib.hid (by rw [hL]; exact HO.out)
  rw [← hL] at hol
  have HLQ := Lib.hid hL
  clear hL HO
  have H1 := Lib.hid h1; have H2 := Lib.hid h2; have HU := Lib.hid hu; have HY := Lib.hid hy
  clear h1 h2 hu hy
  go_wp2_with (at_builtin; refine wpList_app rfl _ _ 32 rfl 3 1 8 _ info_int Tryd.underlying32 rfl (by decide) rfl ((HP.out.alloc' _)) rfl (by rfl) (Rd_lit (by simp) (by unfold maxLen; omega)) (by intro u hu; simp at hu; subst hu; rfl) (by unfold maxLen; omega) (by omega) ?_; intro v' w' hown; have HN2 := Lib.hid hown; clear hown)
  go_wp2_with fail
  apply HK.out
  rw [HE.out]
  unfold CtO natsI
  rw [List.map_append]
  have h9 := HN2.out
  rw [HLQ.out] at h9
  unfold IntSl natsI at h9
  unfold IntSl
  simpa using h9
set_option maxRecDepth 100000 in
set_option maxHeartbeats 4000000 in
theorem clockTells_no (w : World) (hg : As.Handle w) (v : Value) (hs : List Ev) (hv : Evs w v hs) (hE0 : (histR hs).2 ≠ 0) :
    Calls Tryd.prog 5 #[v] w fun e w' => e = .returned (.bool true) ∧ Below w.heap.size w w' := by
  obtain ⟨had, hcap, rfl, hc1, hc2⟩ := hv.shape
  obtain ⟨n, hn⟩ : ∃ n, n = hs.length := ⟨_, rfl⟩
  rw [← hn] at hv hc1 ⊢
  have HO0 := Lib.hid (Own.start w)
  have hV : ∀ R', ReadsE w R' (.slice had n hcap) hs := fun R' => hv.reads
  obtain ⟨E, hE⟩ : ∃ E, E = (histR hs).2 := ⟨_, rfl⟩
  rw [← hE] at hE0
  have t0 : ((E : Int) == 0) = false := by rw [beq_eq_false_iff_ne]; omega
  have tE := ct_same E
  have hve : vecsE hs = [] := by unfold vecsE; rw [← hE, if_neg hE0]
  have hne : numsE hs = [] := by unfold numsE; rw [← hE, if_neg hE0]
  have HG := Lib.hid hg; have HV := Lib.hid hv; have HV := Lib.hid hV; have HE := Lib.hid hE; have HE0 := Lib.hid hE0; have HN := Lib.hid hn; have HVE := Lib.hid hve; have HNE := Lib.hid hne
  clear hg hv hV hE hE0 hn hve hne
  go_enter Tryd.func5, Tryd.ntmps5
  go_wp2_with fail
  refine (refRight_any _ hs HO0.out (HV.out _)).mono ?_
  rintro e w1 ⟨rfl, ho⟩
  rw [← HE.out]
  have HO1 := Lib.hid ho
  clear ho
  go_wp2_with fail
  go_loopw [7, 6] (fun nv ov wr => nv = .int .i64 1 ∧ ov = .slice none 0 0 ∧ Hid (Own w emp wr)) (fun _ _ _ => 0)
  case atStart => exact ⟨rfl, rfl, HO1⟩
  case round =>
    clear HO1 HO0
    obtain ⟨rfl, rfl, HO⟩ := hrel
    go_wp2_with fail
    refine (vectors_any _ hs HO.out (HV.out _)).mono ?_
    rintro e w2 ⟨v2, rs, rfl, hrs, ho⟩
    rw [HVE.out] at hrs
    have hrs0 : rs = [] := List.map_eq_nil_iff.1 hrs
    subst hrs0
    rw [← HE.out]
    obtain ⟨vad, vcap, rfl, _⟩ := ho.ls_shp
    have HO2 := Lib.hid ho
    clear ho hrs
    go_wp2_with fail
    refine (sameErr_any HG.out E E HO2.out).mono ?_
    rintro e w3 ⟨rfl, ho⟩
    rw [tE]
    have HO3 : Hid (Own w (LSl (.slice vad ([] : List (Value × List Int)).length vcap) [] * (LSl (.slice none 0 0) [] * emp)) w3) := Lib.hid (by rw [LSl_nil, emp_star]; exact ho)
    clear ho HO2
    go_wp2_with fail
    refine (sameLists_any _ _ [] [] HO3.out rfl (fun l hl => by cases hl)).mono ?_
    rintro e w4 ⟨rfl, ho⟩
    have HO4 : Hid (Own w emp w4) := Lib.hid ho.drop.drop
    clear ho HO3
    go_wp2_with fail
    refine (nums_any _ hs HO4.out (HV.out _)).mono ?_
    rintro e w5 ⟨v5, rfl, ho⟩
    rw [HNE.out] at ho
    rw [← HE.out]
    obtain ⟨nad, ncap, rfl⟩ := ho.int_shape
    have HO5 := Lib.hid ho
    clear ho HO4
    go_wp2_with fail
    refine (sameErr_any HG.out E E HO5.out).mono ?_
    rintro e w6 ⟨rfl, ho⟩
    rw [tE]
    have HO6 := Lib.hid ho
    clear ho HO5
    go_wp2_with fail
    refine (sameInts_any _ _ [] [] w6 ((IntSl_reads (fun x hx => by cases hx)) _ HO6.out) (Ints_nil _)).mono ?_
    rintro e w' ⟨rfl, n9, rfl⟩
    rw [show (([] : List Int) == []) = true from rfl]
    have HO7 : Hid (Own w emp (w6.drewN n9)) := Lib.hid (HO6.out.drop.drewN _)
    go_wp2_with fail
    refine (order_any _ hs HO7.out (HV.out _)).mono ?_
    rintro e w8 ⟨v8, l, rfl, _, hl, ho⟩
    rw [← HE.out] at hl ⊢
    have hl := hl HE0.out
    subst hl
    rw [show natsI [] = [] from rfl] at ho
    obtain ⟨oad, ocap, rfl⟩ := ho.int_shape
    have HO8 := Lib.hid ho
    clear ho HO7
    go_wp2_with fail
    refine (sameErr_any HG.out E E HO8.out).mono ?_
    rintro e w9 ⟨rfl, ho⟩
    rw [tE]
    have HO9 := Lib.hid ho
    clear ho HO8
    go_wp2_with fail
    have HI9 : Ints w9 (.slice oad ([] : List Int).length ocap) [] := by
      refine ⟨Own.rd HO9.out, fun x hx => ?_⟩
      cases hx
    refine (sameInts_any _ _ [] [] w9 HI9 (Ints_nil _)).mono ?_
    rintro e w' ⟨rfl, n9, rfl⟩
    rw [show (([] : List Int) == []) = true from rfl]
    have HOA : Hid (Own w emp (w9.drewN n9)) := Lib.hid (HO9.out.drop.drewN _)
    go_wp2
    go_ret
    exact ⟨rfl, HOA.out.below⟩
set_option maxRecDepth 100000 in
set_option maxHeartbeats 4000000 in
theorem clockTells_yes (w : World) (hg : As.Handle w) (v : Value) (hs : List Ev) (hv : Evs w v hs) (hE0 : (histR hs).2 = 0) :
    Calls Tryd.prog 5 #[v] w fun e w' => e = .returned (.bool true) ∧ Below w.heap.size w w' := by
  obtain ⟨had, hcap, rfl, hc1, hc2⟩ := hv.shape
  obtain ⟨n, hn⟩ : ∃ n, n = hs.length := ⟨_, rfl⟩
  rw [← hn] at hv hc1 ⊢
  have HO0 := Lib.hid (Own.start w)
  have hV : ∀ R', ReadsE w R' (.slice had n hcap) hs := fun R' => hv.reads
  have hr := (histR_ok hs).1 hE0
  have hlen := hr.1
  rw [← hn] at hlen
  have hve : vecsE hs = vecsR hs := by unfold vecsE; rw [if_pos hE0]
  have hne : numsE hs = numsR hs := by unfold numsE; rw [if_pos hE0]
  have hnl : (numsR hs).length = n := by rw [hn]; exact (numState_len hs _).1
  have HG := Lib.hid hg; have HV := Lib.hid hv; have HV := Lib.hid hV; have HE0 := Lib.hid hE0; have HVE := Lib.hid hve; have HNE := Lib.hid hne; have HR := Lib.hid hr; have HNL := Lib.hid hnl
  clear hg hv hV hE0 hve hne hr hnl
  have HN := Lib.hid hn
  clear hn
  go_enter Tryd.func5, Tryd.ntmps5
  go_wp2_with fail
  refine (refRight_any _ hs HO0.out (HV.out _)).mono ?_
  rintro e w1 ⟨rfl, ho⟩
  rw [HE0.out]
  have HO1 := Lib.hid ho
  clear ho
  go_wp2_with fail
  refine (refVectors_any _ hs HO1.out (HV.out _) HR.out).mono ?_
  rintro e w2 ⟨rv, rs, rfl, hrs, ho⟩
  have HO2 := Lib.hid ho
  clear ho HO1
  have HRS := Lib.hid hrs
  clear hrs
  go_wp2_with fail
  refine (refNumbers_any _ hs HO2.out (HV.out _) HR.out).mono ?_
  rintro e w3 ⟨nv, rfl, ho⟩
  have hshape : ∃ nad ncap, nv = .slice nad n ncap ∧ n ≤ ncap ∧ (0 < n → ∃ nb noff, nad = some ⟨nb, noff, none⟩) := by
    obtain ⟨nad, ncap, e1, h1, _⟩ := Own.rd ho
    rw [HNL.out] at e1 h1
    refine ⟨nad, ncap, e1, h1, fun hp => ?_⟩
    obtain ⟨nb, noff, ncap', e2, _⟩ := ho.ints_at (by rw [HNL.out]; exact hp)
    rw [e1] at e2
    cases e2
    exact ⟨_, _, rfl⟩
  obtain ⟨nad, ncap, rfl, hnc, hnp⟩ := hshape
  have HO3 : Hid (CtO w (.slice none 0 0) (.slice nad n ncap) rv (ordL hs 0 0 0) hs rs w3) := Lib.hid (by
    rw [ordL_start]; exact Own.sl_nil ho _ _)
  clear ho HO2
  have HNP := Lib.hid hnp
  clear hnp
  go_wp2_with fail
  go_loopw [7, 6] (fun kv ov wr => ∃ k : Nat, k ≤ 60 ∧ kv = .int .i64 ((k : Int) + 1) ∧ Hid (CtO w ov (.slice nad n ncap) rv (ordL hs k 0 0) hs rs wr)) (fun kv _ _ => 61 - (intOf kv).toNat)
  case atStart => exact ⟨0, by omega, by go_num, HO3⟩
  case round =>
    clear HO3 HO0
    obtain ⟨k, hk, rfl, HO⟩ := hrel
    by_cases hk6 : k < 60
    · have k6 : (k : Int) + 1 ≤ 60 := by omega
      go_wp2_with fail
      go_loopw [8, 6] (fun xv ov wr => ∃ x : Nat, x ≤ 5 ∧ xv = .int .i64 x ∧ Hid (CtO w ov (.slice nad n ncap) rv (ordL hs k x 0) hs rs wr)) (fun xv _ _ => 5 - (intOf xv).toNat)
      case atStart => exact ⟨0, by omega, rfl, HO⟩
      case round =>
        clear HO
        obtain ⟨x, hx, rfl, HO⟩ := hrel
        by_cases hx5 : x < 5
        · go_wp2_with fail
          go_loopw [9, 6] (fun iv ov wr => ∃ i : Nat, i ≤ n ∧ iv = .int .i64 i ∧ Hid (CtO w ov (.slice nad n ncap) rv (ordL hs k x i) hs rs wr)) (fun iv _ _ => n - (intOf iv).toNat)
          case atStart => exact ⟨0, by omega, rfl, HO⟩
          case round =>
            clear HO
            obtain ⟨i, hi, rfl, HO⟩ := hrel
            by_cases hlt : i < n
            · obtain ⟨nb, noff, rfl⟩ := HNP.out (by omega)
              go_upto_block 5 with fail
              refine ctCell w n i k x hcap ncap nb noff had hs [] u6 rv rs hlt hk hx hlen hc1 hnc HN (Lib.hid (HV.out _)) HR HO ?_
              intros
              rename_i hpp
              have HP := Lib.hid hpp
              clear hpp HO
              go_wp2_with fail
              go_roundw
              case rel => exact ⟨i + 1, by omega, by go_num, HP⟩
              case measure => simp [intOf]; omega
            · have hin : i = n := by omega
              have HP : Hid (CtO w u6 (.slice nad n ncap) rv (ordL hs k (x + 1) 0) hs rs wr) := Lib.hid (by
                have e : ordL hs k x i = ordL hs k (x + 1) 0 := by rw [hin, HN.out, ordL_row]
                rw [← e]; exact HO.out)
              clear HO
              go_wp2_with fail
              go_roundw
              case rel => exact ⟨x + 1, by omega, by go_num, HP⟩
              case measure => simp [intOf]; omega
        · have hx5' : x = 5 := by omega
          have HP : Hid (CtO w u6 (.slice nad n ncap) rv (ordL hs (k + 1) 0 0) hs rs wr) := Lib.hid (by
            have e : ordL hs k x 0 = ordL hs (k + 1) 0 0 := by rw [hx5', ordL_num]
            rw [← e]; exact HO.out)
          clear HO
          go_wp2_with fail
          go_roundw
          case rel => exact ⟨k + 1, by omega, by go_num, HP⟩
          case measure => simp [intOf]; omega
    have hk60 : k = 60 := by omega
    subst hk60
    obtain ⟨o, ho_⟩ : ∃ o, o = ordL hs 60 0 0 := ⟨_, rfl⟩
    have hor : OrdL hs o := by rw [ho_]; exact ordL_ord HR.out
    rw [← ho_] at HO
    have hol : (natsI o).length = n := by rw [natsI_len, hor.len, HN.out]
    have hoI : ∀ y ∈ natsI o, I64 y := by
      intro y hy
      unfold natsI at hy
      obtain ⟨z, hz, rfl⟩ := List.mem_map.1 hy
      have := List.mem_range.1 (hor.perm.mem_iff.1 hz)
      rw [← HN.out] at this
      unfold I64; omega
    clear ho_
    have HOR := Lib.hid hor; have HOL := Lib.hid hol; have HOI := Lib.hid hoI
    clear hor hol hoI
    go_wp2_with fail
    refine (vectors_any _ hs HO.out (HV.out _)).mono ?_
    rintro e w4 ⟨v2, rs2, rfl, hrs2, ho⟩
    rw [HVE.out] at hrs2
    rw [HE0.out, errV0]
    have HO4 := Lib.hid ho
    have HRS2 := Lib.hid hrs2
    clear hrs2
    clear ho HO
    go_wp2_with fail
    have hse := sameErr_any HG.out 0 0 HO4.out
    rw [errV0] at hse
    refine hse.mono ?_
    rintro e w5 ⟨rfl, ho⟩
    have HO5 : Hid (Own w (LSl v2 rs2 * (LSl rv rs * (IntSl u6 (natsI o) * (IntSl (.slice nad n ncap) (numsR hs) * emp)))) w5) := Lib.hid (ho.perm (by ac_rfl))
    clear ho HO4 hse
    rw [show (((0 : Nat) : Int) == 0) = true from rfl]
    go_wp2_with fail
    refine (sameLists_any _ _ rs2 rs HO5.out (by rw [HRS2.out, HRS.out]) (by rw [HRS.out]; exact vecs_I64 HR.out)).mono ?_
    rintro e w6 ⟨rfl, ho⟩
    have HO6 := Lib.hid ho.drop.drop
    clear ho HO5
    go_wp2_with fail
    refine (nums_any _ hs HO6.out (HV.out _)).mono ?_
    rintro e w7 ⟨v5, rfl, ho⟩
    rw [HNE.out] at ho
    rw [HE0.out, errV0]
    have HO7 := Lib.hid ho
    clear ho HO6
    go_wp2_with fail
    have hse := sameErr_any HG.out 0 0 HO7.out
    rw [errV0] at hse
    refine hse.mono ?_
    rintro e w8 ⟨rfl, ho⟩
    have HO8 := Lib.hid ho
    clear ho HO7 hse
    rw [show (((0 : Nat) : Int) == 0) = true from rfl]
    have HI1 : Hid (Ints w8 v5 (numsR hs)) := Lib.hid ((IntSl_reads (nums_I64 HR.out)) _ HO8.out)
    have HI2 : Hid (Ints w8 (.slice nad n ncap) (numsR hs)) := Lib.hid ((IntSl_reads (nums_I64 HR.out)) _ (Own.third HO8.out))
    go_wp2_with fail
    refine (sameInts_any _ _ (numsR hs) (numsR hs) w8 HI1.out HI2.out).mono ?_
    rintro e w' ⟨rfl, n9, rfl⟩
    rw [show (numsR hs == numsR hs) = true from beq_iff_eq.2 rfl]
    have HO9 : Hid (Own w (IntSl u6 (natsI o) * (IntSl (.slice nad n ncap) (numsR hs) * emp)) (w8.drewN n9)) := Lib.hid (HO8.out.drop.drewN _)
    clear HI1 HI2 HO8
    go_wp2_with fail
    refine (order_any _ hs HO9.out (HV.out _)).mono ?_
    rintro e wA ⟨v8, l, rfl, hl, _, ho⟩
    have hl := hl HE0.out
    rw [HE0.out, errV0]
    have hlo : l = o := hl.eq HOR.out
    subst hlo
    have HOA := Lib.hid ho
    clear ho HO9 hl
    go_wp2_with fail
    have hse := sameErr_any HG.out 0 0 HOA.out
    rw [errV0] at hse
    refine hse.mono ?_
    rintro e wB ⟨rfl, ho⟩
    have HOB := Lib.hid ho
    clear ho HOA hse
    rw [show (((0 : Nat) : Int) == 0) = true from rfl]
    have HI1 : Hid (Ints wB v8 (natsI l)) := Lib.hid ((IntSl_reads HOI.out) _ HOB.out)
    have HI2 : Hid (Ints wB u6 (natsI l)) := Lib.hid ((IntSl_reads HOI.out) _ (Own.second HOB.out))
    go_wp2_with fail
    refine (sameInts_any _ _ (natsI l) (natsI l) wB HI1.out HI2.out).mono ?_
    rintro e w' ⟨rfl, n9, rfl⟩
    rw [show (natsI l == natsI l) = true from beq_iff_eq.2 rfl]
    have HOC := Lib.hid (HOB.out.drewN n9)
    go_wp2
    go_ret
    exact ⟨rfl, HOC.out.below⟩
set_option maxRecDepth 100000 in
set_option maxHeartbeats 4000000 in
theorem clockTells_law (w : World) (hg : As.Handle w) (v : Value) (hs : List Ev) (hv : Evs w v hs) :
    Calls Tryd.prog 5 #[v] w fun e w' => e = .returned (.bool true) ∧ Below w.heap.size w w' := by
  by_cases h : (histR hs).2 = 0
  · exact clockTells_yes w hg v hs hv h
  · exact clockTells_no w hg v hs hv h
end Go.Proofs.YtljlnhbndkdlcaaDoor
/- Closed facts on the program as a whole, each asked once for all statements of the seat. -/
namespace Go.Proofs.YtljlnhbndkdlcaaDoor.facts
set_option linter.unusedVariables false
set_option linter.unusedSimpArgs false
open Go.ChangeShapes Go.WideShapes Go.ChangeAt
theorem words_step (w r : List Char) (h : w.all (fun c => c != Char.ofNat 32) = true) : wordsSigns (w ++ Char.ofNat 32 :: r) = w :: wordsSigns r := by
  induction w with
  | nil => rfl
  | cons c w ih =>
    simp only [List.all_cons, Bool.and_eq_true, bne_iff_ne, ne_eq] at h
    rw [List.cons_append]
    have e : wordsSigns (c :: (w ++ Char.ofNat 32 :: r)) = match wordsSigns (w ++ Char.ofNat 32 :: r) with | x :: xs => (c :: x) :: xs | [] => [[c]] := by
      conv => lhs; unfold wordsSigns
      split
      · rename_i h1; cases h1
      · rename_i h1; injection h1 with h2 _; exact absurd h2 h.1
      · rename_i h1; injection h1 with h2 h3; subst h2 h3; rfl
    rw [e, ih (by simpa using h.2)]
theorem make_of (P : Program) (c : List Char) (rest : List (List Char)) (h : behindMainWord (wordsSigns P.initOrder.toList) = c :: rest) : P.make =
  if c == "gc".toList || c == "spec".toList then some .whole else if c == "cut".toList || (c == "finals".toList && rest.head? == some "cut".toList) then some .cut else if c == "carried".toList then some .carried else if P.headLifts.isEmpty then none else some (.lifted P.headLifts) := by
  unfold Program.make
  rw [h]
theorem mayEnter_of (P : Program) (c : List Char) (rest : List (List Char)) (h : behindMainWord (wordsSigns P.initOrder.toList) = c :: rest) : P.mayEnter = (
    ((c == "gc".toList || c == "spec".toList) && (rest.isEmpty || rest.head? == some "stop".toList)) ||
    (c == "carried".toList && rest.take 2 == ["gc".toList, "cut".toList] && !P.laysLater && !P.bearsReflect) ||
    ((stripLifts liftWords (c :: rest)).2.head? == some "cut".toList &&
      ((stripLifts liftWords (c :: rest)).1.contains "finals" || !P.laysLater) && ((stripLifts liftWords (c :: rest)).1.contains "reflectrows" || !P.bearsReflect) &&
      ((stripLifts liftWords (c :: rest)).1.contains "reflectrows" || !(stripLifts liftWords (c :: rest)).1.contains "leanrows") &&
      P.doorFits (stripLifts liftWords (c :: rest)).1)) := by
  unfold Program.mayEnter
  rw [h]
def hw0 : List Char := [Char.ofNat 104, Char.ofNat 97, Char.ofNat 114, Char.ofNat 110, Char.ofNat 101, Char.ofNat 115, Char.ofNat 115]
def hw1 : List Char := [Char.ofNat 48, Char.ofNat 98, Char.ofNat 49, Char.ofNat 52, Char.ofNat 53, Char.ofNat 51, Char.ofNat 54, Char.ofNat 53, Char.ofNat 49, Char.ofNat 51, Char.ofNat 100, Char.ofNat 98, Char.ofNat 52, Char.ofNat 49, Char.ofNat 49, Char.ofNat 100, Char.ofNat 101, Char.ofNat 52, Char.ofNat 52, Char.ofNat 49, Char.ofNat 57, Char.ofNat 101, Char.ofNat 51, Char.ofNat 52, Char.ofNat 102, Char.ofNat 49, Char.ofNat 52, Char.ofNat 102, Char.ofNat 98, Char.ofNat 101, Char.ofNat 100, Char.ofNat 53, Char.ofNat 97, Char.ofNat 56, Char.ofNat 101, Char.ofNat 101, Char.ofNat 50, Char.ofNat 100, Char.ofNat 54, Char.ofNat 56, Char.ofNat 50, Char.ofNat 57, Char.ofNat 56, Char.ofNat 99, Char.ofNat 55, Char.ofNat 51, Char.ofNat 99, Char.ofNat 57, Char.ofNat 52, Char.ofNat 50, Char.ofNat 52, Char.ofNat 98, Char.ofNat 100, Char.ofNat 54, Char.ofNat 100, Char.ofNat 52, Char.ofNat 99, Char.ofNat 101, Char.ofNat 56, Char.ofNat 50, Char.ofNat 99, Char.ofNat 99, Char.ofNat 97, Char.ofNat 53]
def hw2 : List Char := [Char.ofNat 99, Char.ofNat 117, Char.ofNat 116]
def hrest : List Char := [Char.ofNat 97, Char.ofNat 116, Char.ofNat 32, Char.ofNat 109, Char.ofNat 111, Char.ofNat 111, Char.ofNat 116, Char.ofNat 98, Char.ofNat 101, Char.ofNat 108, Char.ofNat 108, Char.ofNat 47, Char.ofNat 109, Char.ofNat 111, Char.ofNat 111, Char.ofNat 116, Char.ofNat 108, Char.ofNat 97, Char.ofNat 119, Char.ofNat 52, Char.ofNat 46, Char.ofNat 76, Char.ofNat 111, Char.ofNat 103, Char.ofNat 82, Char.ofNat 101, Char.ofNat 102, Char.ofNat 117, Char.ofNat 115, Char.ofNat 101, Char.ofNat 115, Char.ofNat 32, Char.ofNat 109, Char.ofNat 111, Char.ofNat 111, Char.ofNat 116, Char.ofNat 98, Char.ofNat 101, Char.ofNat 108, Char.ofNat 108, Char.ofNat 47, Char.ofNat 109, Char.ofNat 111, Char.ofNat 111, Char.ofNat 116, Char.ofNat 108, Char.ofNat 97, Char.ofNat 119, Char.ofNat 51, Char.ofNat 46, Char.ofNat 76, Char.ofNat 111, Char.ofNat 103, Char.ofNat 83, Char.ofNat 116, Char.ofNat 111, Char.ofNat 112, Char.ofNat 115, Char.ofNat 32, Char.ofNat 109, Char.ofNat 111, Char.ofNat 111, Char.ofNat 116, Char.ofNat 98, Char.ofNat 101, Char.ofNat 108, Char.ofNat 108, Char.ofNat 47, Char.ofNat 109, Char.ofNat 111, Char.ofNat 111, Char.ofNat 116, Char.ofNat 108, Char.ofNat 97, Char.ofNat 119, Char.ofNat 49, Char.ofNat 46, Char.ofNat 67, Char.ofNat 108, Char.ofNat 111, Char.ofNat 99, Char.ofNat 107, Char.ofNat 84, Char.ofNat 101, Char.ofNat 108, Char.ofNat 108, Char.ofNat 115, Char.ofNat 32, Char.ofNat 109, Char.ofNat 111, Char.ofNat 111, Char.ofNat 116, Char.ofNat 98, Char.ofNat 101, Char.ofNat 108, Char.ofNat 108, Char.ofNat 47, Char.ofNat 109, Char.ofNat 111, Char.ofNat 111, Char.ofNat 116, Char.ofNat 108, Char.ofNat 97, Char.ofNat 119, Char.ofNat 51, Char.ofNat 46, Char.ofNat 76, Char.ofNat 111, Char.ofNat 103, Char.ofNat 75, Char.ofNat 101, Char.ofNat 101, Char.ofNat 112, Char.ofNat 115]
set_option maxRecDepth 100000 in
theorem init_lit : Tryd.prog.initOrder = String.ofList [Char.ofNat 104, Char.ofNat 97, Char.ofNat 114, Char.ofNat 110, Char.ofNat 101, Char.ofNat 115, Char.ofNat 115, Char.ofNat 32, Char.ofNat 48, Char.ofNat 98, Char.ofNat 49, Char.ofNat 52, Char.ofNat 53, Char.ofNat 51, Char.ofNat 54, Char.ofNat 53, Char.ofNat 49, Char.ofNat 51, Char.ofNat 100, Char.ofNat 98, Char.ofNat 52, Char.ofNat 49, Char.ofNat 49, Char.ofNat 100, Char.ofNat 101, Char.ofNat 52, Char.ofNat 52, Char.ofNat 49, Char.ofNat 57, Char.ofNat 101, Char.ofNat 51, Char.ofNat 52, Char.ofNat 102, Char.ofNat 49, Char.ofNat 52, Char.ofNat 102, Char.ofNat 98, Char.ofNat 101, Char.ofNat 100, Char.ofNat 53, Char.ofNat 97, Char.ofNat 56, Char.ofNat 101, Char.ofNat 101, Char.ofNat 50, Char.ofNat 100, Char.ofNat 54, Char.ofNat 56, Char.ofNat 50, Char.ofNat 57, Char.ofNat 56, Char.ofNat 99, Char.ofNat 55, Char.ofNat 51, Char.ofNat 99, Char.ofNat 57, Char.ofNat 52, Char.ofNat 50, Char.ofNat 52, Char.ofNat 98, Char.ofNat 100, Char.ofNat 54, Char.ofNat 100, Char.ofNat 52, Char.ofNat 99, Char.ofNat 101, Char.ofNat 56, Char.ofNat 50, Char.ofNat 99, Char.ofNat 99, Char.ofNat 97, Char.ofNat 53, Char.ofNat 32, Char.ofNat 99, Char.ofNat 117, Char.ofNat 116, Char.ofNat 32, Char.ofNat 97, Char.ofNat 116, Char.ofNat 32, Char.ofNat 109, Char.ofNat 111, Char.ofNat 111, Char.ofNat 116, Char.ofNat 98, Char.ofNat 101, Char.ofNat 108, Char.ofNat 108, Char.ofNat 47, Char.ofNat 109, Char.ofNat 111, Char.ofNat 111, Char.ofNat 116, Char.ofNat 108, Char.ofNat 97, Char.ofNat 119, Char.ofNat 52, Char.ofNat 46, Char.ofNat 76, Char.ofNat 111, Char.ofNat 103, Char.ofNat 82, Char.ofNat 101, Char.ofNat 102, Char.ofNat 117, Char.ofNat 115, Char.ofNat 101, Char.ofNat 115, Char.ofNat 32, Char.ofNat 109, Char.ofNat 111, Char.ofNat 111, Char.ofNat 116, Char.ofNat 98, Char.ofNat 101, Char.ofNat 108, Char.ofNat 108, Char.ofNat 47, Char.ofNat 109, Char.ofNat 111, Char.ofNat 111, Char.ofNat 116, Char.ofNat 108, Char.ofNat 97, Char.ofNat 119, Char.ofNat 51, Char.ofNat 46, Char.ofNat 76, Char.ofNat 111, Char.ofNat 103, Char.ofNat 83, Char.ofNat 116, Char.ofNat 111, Char.ofNat 112, Char.ofNat 115, Char.ofNat 32, Char.ofNat 109, Char.ofNat 111, Char.ofNat 111, Char.ofNat 116, Char.ofNat 98, Char.ofNat 101, Char.ofNat 108, Char.ofNat 108, Char.ofNat 47, Char.ofNat 109, Char.ofNat 111, Char.ofNat 111, Char.ofNat 116, Char.ofNat 108, Char.ofNat 97, Char.ofNat 119, Char.ofNat 49, Char.ofNat 46, Char.ofNat 67, Char.ofNat 108, Char.ofNat 111, Char.ofNat 99, Char.ofNat 107, Char.ofNat 84, Char.ofNat 101, Char.ofNat 108, Char.ofNat 108, Char.ofNat 115, Char.ofNat 32, Char.ofNat 109, Char.ofNat 111, Char.ofNat 111, Char.ofNat 116, Char.ofNat 98, Char.ofNat 101, Char.ofNat 108, Char.ofNat 108, Char.ofNat 47, Char.ofNat 109, Char.ofNat 111, Char.ofNat 111, Char.ofNat 116, Char.ofNat 108, Char.ofNat 97, Char.ofNat 119, Char.ofNat 51, Char.ofNat 46, Char.ofNat 76, Char.ofNat 111, Char.ofNat 103, Char.ofNat 75, Char.ofNat 101, Char.ofNat 101, Char.ofNat 112, Char.ofNat 115] := by kernel_rfl
set_option maxRecDepth 100000 in
theorem init_chars : Tryd.prog.initOrder.toList = [Char.ofNat 104, Char.ofNat 97, Char.ofNat 114, Char.ofNat 110, Char.ofNat 101, Char.ofNat 115, Char.ofNat 115, Char.ofNat 32, Char.ofNat 48, Char.ofNat 98, Char.ofNat 49, Char.ofNat 52, Char.ofNat 53, Char.ofNat 51, Char.ofNat 54, Char.ofNat 53, Char.ofNat 49, Char.ofNat 51, Char.ofNat 100, Char.ofNat 98, Char.ofNat 52, Char.ofNat 49, Char.ofNat 49, Char.ofNat 100, Char.ofNat 101, Char.ofNat 52, Char.ofNat 52, Char.ofNat 49, Char.ofNat 57, Char.ofNat 101, Char.ofNat 51, Char.ofNat 52, Char.ofNat 102, Char.ofNat 49, Char.ofNat 52, Char.ofNat 102, Char.ofNat 98, Char.ofNat 101, Char.ofNat 100, Char.ofNat 53, Char.ofNat 97, Char.ofNat 56, Char.ofNat 101, Char.ofNat 101, Char.ofNat 50, Char.ofNat 100, Char.ofNat 54, Char.ofNat 56, Char.ofNat 50, Char.ofNat 57, Char.ofNat 56, Char.ofNat 99, Char.ofNat 55, Char.ofNat 51, Char.ofNat 99, Char.ofNat 57, Char.ofNat 52, Char.ofNat 50, Char.ofNat 52, Char.ofNat 98, Char.ofNat 100, Char.ofNat 54, Char.ofNat 100, Char.ofNat 52, Char.ofNat 99, Char.ofNat 101, Char.ofNat 56, Char.ofNat 50, Char.ofNat 99, Char.ofNat 99, Char.ofNat 97, Char.ofNat 53, Char.ofNat 32, Char.ofNat 99, Char.ofNat 117, Char.ofNat 116, Char.ofNat 32, Char.ofNat 97, Char.ofNat 116, Char.ofNat 32, Char.ofNat 109, Char.ofNat 111, Char.ofNat 111, Char.ofNat 116, Char.ofNat 98, Char.ofNat 101, Char.ofNat 108, Char.ofNat 108, Char.ofNat 47, Char.ofNat 109, Char.ofNat 111, Char.ofNat 111, Char.ofNat 116, Char.ofNat 108, Char.ofNat 97, Char.ofNat 119, Char.ofNat 52, Char.ofNat 46, Char.ofNat 76, Char.ofNat 111, Char.ofNat 103, Char.ofNat 82, Char.ofNat 101, Char.ofNat 102, Char.ofNat 117, Char.ofNat 115, Char.ofNat 101, Char.ofNat 115, Char.ofNat 32, Char.ofNat 109, Char.ofNat 111, Char.ofNat 111, Char.ofNat 116, Char.ofNat 98, Char.ofNat 101, Char.ofNat 108, Char.ofNat 108, Char.ofNat 47, Char.ofNat 109, Char.ofNat 111, Char.ofNat 111, Char.ofNat 116, Char.ofNat 108, Char.ofNat 97, Char.ofNat 119, Char.ofNat 51, Char.ofNat 46, Char.ofNat 76, Char.ofNat 111, Char.ofNat 103, Char.ofNat 83, Char.ofNat 116, Char.ofNat 111, Char.ofNat 112, Char.ofNat 115, Char.ofNat 32, Char.ofNat 109, Char.ofNat 111, Char.ofNat 111, Char.ofNat 116, Char.ofNat 98, Char.ofNat 101, Char.ofNat 108, Char.ofNat 108, Char.ofNat 47, Char.ofNat 109, Char.ofNat 111, Char.ofNat 111, Char.ofNat 116, Char.ofNat 108, Char.ofNat 97, Char.ofNat 119, Char.ofNat 49, Char.ofNat 46, Char.ofNat 67, Char.ofNat 108, Char.ofNat 111, Char.ofNat 99, Char.ofNat 107, Char.ofNat 84, Char.ofNat 101, Char.ofNat 108, Char.ofNat 108, Char.ofNat 115, Char.ofNat 32, Char.ofNat 109, Char.ofNat 111, Char.ofNat 111, Char.ofNat 116, Char.ofNat 98, Char.ofNat 101, Char.ofNat 108, Char.ofNat 108, Char.ofNat 47, Char.ofNat 109, Char.ofNat 111, Char.ofNat 111, Char.ofNat 116, Char.ofNat 108, Char.ofNat 97, Char.ofNat 119, Char.ofNat 51, Char.ofNat 46, Char.ofNat 76, Char.ofNat 111, Char.ofNat 103, Char.ofNat 75, Char.ofNat 101, Char.ofNat 101, Char.ofNat 112, Char.ofNat 115] := by rw [init_lit, String.toList_ofList]
set_option maxRecDepth 100000 in
theorem init_split : [Char.ofNat 104, Char.ofNat 97, Char.ofNat 114, Char.ofNat 110, Char.ofNat 101, Char.ofNat 115, Char.ofNat 115, Char.ofNat 32, Char.ofNat 48, Char.ofNat 98, Char.ofNat 49, Char.ofNat 52, Char.ofNat 53, Char.ofNat 51, Char.ofNat 54, Char.ofNat 53, Char.ofNat 49, Char.ofNat 51, Char.ofNat 100, Char.ofNat 98, Char.ofNat 52, Char.ofNat 49, Char.ofNat 49, Char.ofNat 100, Char.ofNat 101, Char.ofNat 52, Char.ofNat 52, Char.ofNat 49, Char.ofNat 57, Char.ofNat 101, Char.ofNat 51, Char.ofNat 52, Char.ofNat 102, Char.ofNat 49, Char.ofNat 52, Char.ofNat 102, Char.ofNat 98, Char.ofNat 101, Char.ofNat 100, Char.ofNat 53, Char.ofNat 97, Char.ofNat 56, Char.ofNat 101, Char.ofNat 101, Char.ofNat 50, Char.ofNat 100, Char.ofNat 54, Char.ofNat 56, Char.ofNat 50, Char.ofNat 57, Char.ofNat 56, Char.ofNat 99, Char.ofNat 55, Char.ofNat 51, Char.ofNat 99, Char.ofNat 57, Char.ofNat 52, Char.ofNat 50, Char.ofNat 52, Char.ofNat 98, Char.ofNat 100, Char.ofNat 54, Char.ofNat 100, Char.ofNat 52, Char.ofNat 99, Char.ofNat 101, Char.ofNat 56, Char.ofNat 50, Char.ofNat 99, Char.ofNat 99, Char.ofNat 97, Char.ofNat 53, Char.ofNat 32, Char.ofNat 99, Char.ofNat 117, Char.ofNat 116, Char.ofNat 32, Char.ofNat 97, Char.ofNat 116, Char.ofNat 32, Char.ofNat 109, Char.ofNat 111, Char.ofNat 111, Char.ofNat 116, Char.ofNat 98, Char.ofNat 101, Char.ofNat 108, Char.ofNat 108, Char.ofNat 47, Char.ofNat 109, Char.ofNat 111, Char.ofNat 111, Char.ofNat 116, Char.ofNat 108, Char.ofNat 97, Char.ofNat 119, Char.ofNat 52, Char.ofNat 46, Char.ofNat 76, Char.ofNat 111, Char.ofNat 103, Char.ofNat 82, Char.ofNat 101, Char.ofNat 102, Char.ofNat 117, Char.ofNat 115, Char.ofNat 101, Char.ofNat 115, Char.ofNat 32, Char.ofNat 109, Char.ofNat 111, Char.ofNat 111, Char.ofNat 116, Char.ofNat 98, Char.ofNat 101, Char.ofNat 108, Char.ofNat 108, Char.ofNat 47, Char.ofNat 109, Char.ofNat 111, Char.ofNat 111, Char.ofNat 116, Char.ofNat 108, Char.ofNat 97, Char.ofNat 119, Char.ofNat 51, Char.ofNat 46, Char.ofNat 76, Char.ofNat 111, Char.ofNat 103, Char.ofNat 83, Char.ofNat 116, Char.ofNat 111, Char.ofNat 112, Char.ofNat 115, Char.ofNat 32, Char.ofNat 109, Char.ofNat 111, Char.ofNat 111, Char.ofNat 116, Char.ofNat 98, Char.ofNat 101, Char.ofNat 108, Char.ofNat 108, Char.ofNat 47, Char.ofNat 109, Char.ofNat 111, Char.ofNat 111, Char.ofNat 116, Char.ofNat 108, Char.ofNat 97, Char.ofNat 119, Char.ofNat 49, Char.ofNat 46, Char.ofNat 67, Char.ofNat 108, Char.ofNat 111, Char.ofNat 99, Char.ofNat 107, Char.ofNat 84, Char.ofNat 101, Char.ofNat 108, Char.ofNat 108, Char.ofNat 115, Char.ofNat 32, Char.ofNat 109, Char.ofNat 111, Char.ofNat 111, Char.ofNat 116, Char.ofNat 98, Char.ofNat 101, Char.ofNat 108, Char.ofNat 108, Char.ofNat 47, Char.ofNat 109, Char.ofNat 111, Char.ofNat 111, Char.ofNat 116, Char.ofNat 108, Char.ofNat 97, Char.ofNat 119, Char.ofNat 51, Char.ofNat 46, Char.ofNat 76, Char.ofNat 111, Char.ofNat 103, Char.ofNat 75, Char.ofNat 101, Char.ofNat 101, Char.ofNat 112, Char.ofNat 115] = hw0 ++ Char.ofNat 32 :: (hw1 ++ Char.ofNat 32 :: (hw2 ++ Char.ofNat 32 :: hrest)) := by kernel_rfl
theorem init_words : wordsSigns Tryd.prog.initOrder.toList = hw0 :: hw1 :: hw2 :: wordsSigns hrest := by
  rw [init_chars.trans init_split]
  rw [words_step hw0 _ (by kernel_rfl)]
  rw [words_step hw1 _ (by kernel_rfl)]
  rw [words_step hw2 _ (by kernel_rfl)]
theorem behind (rs : List (List Char)) : behindMainWord (hw0 :: hw1 :: hw2 :: rs) = hw2 :: rs := by kernel_rfl
theorem strip (rs : List (List Char)) : stripLifts liftWords (hw2 :: rs) = ([], hw2 :: rs) := by kernel_rfl
theorem laysLater : Tryd.prog.laysLater = false := by kernel_rfl
theorem bearsReflect : Tryd.prog.bearsReflect = false := by kernel_rfl
theorem doorFits : Tryd.prog.doorFits [] = true := by kernel_rfl
theorem headLifts : Tryd.prog.headLifts = [] := by
  unfold Program.headLifts; rw [init_words, behind, strip]; generalize wordsSigns hrest = rs; kernel_rfl
theorem mayEnter : Tryd.prog.mayEnter = true := by
  rw [mayEnter_of Tryd.prog _ _ (by rw [init_words, behind]), strip, laysLater, bearsReflect, doorFits]; generalize wordsSigns hrest = rs; kernel_rfl
theorem lifts_eq : Tryd.prog.liftsFinal = false := by
  unfold Program.liftsFinal; rw [init_words, behind, headLifts]; generalize wordsSigns hrest = rs; kernel_rfl
theorem make_eq : (Tryd.prog.make == some .cut) = true := by
  rw [make_of Tryd.prog _ _ (by rw [init_words, behind]), headLifts]; generalize wordsSigns hrest = rs; kernel_rfl
theorem laidOut : laidOutB Tryd.prog = true := by kernel_rfl
theorem mapsRowed : mapsRowed Tryd.prog = true := by kernel_rfl
theorem stops : (Tryd.prog.stops == []) = true := by kernel_rfl
theorem stopKnobs : (Tryd.prog.stopKnobs == []) = true := by kernel_rfl
theorem stopsHeard : Tryd.prog.stopsHeard = true := by kernel_rfl
theorem own : ownKnob Tryd.prog.godebug = none := by kernel_rfl
theorem and_mk {a b : Bool} (ha : a = true) (hb : b = true) : (a && b) = true := by rw [ha, hb]; rfl
end Go.Proofs.YtljlnhbndkdlcaaDoor.facts
