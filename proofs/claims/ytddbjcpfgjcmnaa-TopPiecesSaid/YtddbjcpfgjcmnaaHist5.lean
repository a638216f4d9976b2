/- Contracts of package history, continued: the middle loop of Pasts. -/
import Derived.Test.YtddbjcpfgjcmnaaHist4
namespace Go.Proofs.Ytddbjcpfgjcmnaa
set_option linter.unusedVariables false
set_option linter.unusedSimpArgs false
open Go.RowKit
def pRows (hs : List Ev) (k n : Nat) (r : List Bool) : List (List Bool) := pastsR hs k ++ r :: List.replicate (n - k - 1) []
theorem pRows_at (hs : List Ev) (k n : Nat) (r : List Bool) : (pRows hs k n r)[k]? = some r := by
  unfold pRows
  rw [List.getElem?_append_right (by rw [pastsR_len]; omega), pastsR_len]; simp
theorem pRows_lt (hs : List Ev) (k n i : Nat) (r : List Bool) (hi : i < k) : (pRows hs k n r)[i]? = some ((pastsR hs k).getD i []) := by
  unfold pRows
  rw [List.getElem?_append_left (by rw [pastsR_len]; exact hi), List.getElem?_eq_getElem (by rw [pastsR_len]; exact hi), List.getD_eq_getElem?_getD, List.getElem?_eq_getElem (by rw [pastsR_len]; exact hi)]
  rfl
theorem pRows_set (hs : List Ev) (k n : Nat) (r r' : List Bool) : (pRows hs k n r).set k r' = pRows hs k n r' := by
  unfold pRows
  rw [List.set_append_right _ _ (by rw [pastsR_len]; omega), pastsR_len]; simp
theorem map_at {α β : Type} {rs : List (α × β)} {L : List β} {k : Nat} {r : β} (h : rs.map (·.2) = L) (hk : L[k]? = some r) : ∃ v, rs[k]? = some (v, r) := by
  rw [← h, List.getElem?_map, Option.map_eq_some_iff] at hk
  obtain ⟨⟨v, r'⟩, h1, h2⟩ := hk
  simp only at h2
  exact ⟨v, by rw [h1, h2]⟩
theorem map_put {α β : Type} {rs : List (α × β)} {L : List β} {k : Nat} {v : α} {r : β} (h : rs.map (·.2) = L) : (rs.set k (v, r)).map (·.2) = L.set k r := by
  rw [List.map_set, h]
theorem Own.bt_shape {w0 w : World} {rb n k : Nat} {rs : List (Value × List Bool)} {R : HProp} {v : Value} {l : List Bool} (h : Own w0 (BTab rb n rs * R) w) (hk : rs[k]? = some (v, l)) (hp : 0 < l.length) : ∃ b o cap, v = .slice (some ⟨b, o, none⟩) l.length cap := by
  obtain ⟨hlt, he⟩ := List.getElem?_eq_some_iff.1 hk
  obtain ⟨b, o, cap, e, _⟩ := h.bt_row hlt (by rw [he]; exact hp)
  rw [he] at e
  exact ⟨b, o, cap, e⟩
noncomputable def paMid_code : Code := ((Try.f18.body.bind (findBlock 2)).getD .skip)
set_option maxRecDepth 1000000 in
set_option maxHeartbeats 4000000 in
theorem paMid {Q : Exit → Act → World → Prop} {u1 u2 u6 u7 u8 u9 u10 u11 u12 u13 u14 u15 u16 u17 u18 u19 u20 u21 u22 u23 u24 u25 u28 u29 u30 u31 u32 u33 u34 u35 u36 u37 u38 u39 u40 u41 u42 u43 u44 u45 u46 u47 u48 u49 u50 u51 u52 u53 u54 u55 u56 u57 u58 u59 u60 u61 u62 u63 u64 u65 u66 u67 u68 u69 u70 u71 u72 u73 u74 u75 u76 u77 u78 u79 u80 u81 u82 u83 u84 u85 u86 u87 u88 u89 u90 u91 u92 u93 u94 u95 u96 u97 u98 : Value} {w1 : World} (w : World) (R : HProp) (rb n k eb hcap : Nat) (had : Option Addr) (hs : List Ev) (x : Ev) (rs0 : List (Value × List Bool)) (hk : k < n) (hn : n ≤ 60) (hc1 : n ≤ hcap) (hc2 : hcap ≤ 9223372036854775807) (HLN : Hid (hs.length = n)) (HX : Hid (x = evAt hs k)) (HV : Hid (ReadsE w R (.slice had n hcap) hs)) (HM : Hid (rs0.map (·.2) = pRows hs k n (List.replicate n false))) (HP : Hid (Own w (BTab rb n rs0 * (EvO eb x * R)) w1))
    (hK : ∀ (v6 v7 v8 v9 v27 v28 v29 v30 v31 v32 v33 v34 v35 v36 v37 v38 v39 v40 v41 v42 v43 v44 v45 v46 v47 v48 v49 v50 v51 v52 v53 v54 v55 v56 v57 v58 v59 v60 v61 v62 v63 v64 v65 v66 v67 v68 v69 v70 v71 v72 v73 v74 v75 v76 v77 v78 v79 v80 v81 v82 v83 v84 v85 v86 v87 v88 v89 v90 v91 v92 v93 v94 v95 v96 : Value) (wx : World), (∃ rs' y, rs' = rs0.set k y ∧ rs'.map (·.2) = pRows hs k n (pastRow hs (pastsR hs k) k k) ∧ Own w (BTab rb n rs' * (EvO eb x * R)) wx) → Q .normal ⟨List.toArray ((.slice had n hcap) :: u1 :: u2 :: (.slice (some ⟨rb, 0, none⟩) n n) :: (.int .i64 (k : Int)) :: (.pointer (some ⟨eb, 0, none⟩)) :: v6 :: v7 :: v8 :: v9 :: u10 :: u11 :: u12 :: u13 :: u14 :: u15 :: u16 :: u17 :: u18 :: u19 :: u20 :: u21 :: u22 :: u23 :: u24 :: u25 :: (.int .i64 (k : Int)) :: v27 :: v28 :: v29 :: v30 :: v31 :: v32 :: v33 :: v34 :: v35 :: v36 :: v37 :: v38 :: v39 :: v40 :: v41 :: v42 :: v43 :: v44 :: v45 :: v46 :: v47 :: v48 :: v49 :: v50 :: v51 :: v52 :: v53 :: v54 :: v55 :: v56 :: v57 :: v58 :: v59 :: v60 :: v61 :: v62 :: v63 :: v64 :: v65 :: v66 :: v67 :: v68 :: v69 :: v70 :: v71 :: v72 :: v73 :: v74 :: v75 :: v76 :: v77 :: v78 :: v79 :: v80 :: v81 :: v82 :: v83 :: v84 :: v85 :: v86 :: v87 :: v88 :: v89 :: v90 :: v91 :: v92 :: v93 :: v94 :: v95 :: v96 :: u97 :: u98 :: []), []⟩ wx) :
    Code.wp Try.prog paMid_code Q ⟨List.toArray ((.slice had n hcap) :: u1 :: u2 :: (.slice (some ⟨rb, 0, none⟩) n n) :: (.int .i64 (k : Int)) :: (.pointer (some ⟨eb, 0, none⟩)) :: u6 :: u7 :: u8 :: u9 :: u10 :: u11 :: u12 :: u13 :: u14 :: u15 :: u16 :: u17 :: u18 :: u19 :: u20 :: u21 :: u22 :: u23 :: u24 :: u25 :: (.int .i64 (k : Int)) :: (.int .i64 0) :: u28 :: u29 :: u30 :: u31 :: u32 :: u33 :: u34 :: u35 :: u36 :: u37 :: u38 :: u39 :: u40 :: u41 :: u42 :: u43 :: u44 :: u45 :: u46 :: u47 :: u48 :: u49 :: u50 :: u51 :: u52 :: u53 :: u54 :: u55 :: u56 :: u57 :: u58 :: u59 :: u60 :: u61 :: u62 :: u63 :: u64 :: u65 :: u66 :: u67 :: u68 :: u69 :: u70 :: u71 :: u72 :: u73 :: u74 :: u75 :: u76 :: u77 :: u78 :: u79 :: u80 :: u81 :: u82 :: u83 :: u84 :: u85 :: u86 :: u87 :: u88 :: u89 :: u90 :: u91 :: u92 :: u93 :: u94 :: u95 :: u96 :: u97 :: u98 :: []), []⟩ w1 := by
  conv => arg 2; whnf
  have HK := Lib.hid hK
  clear hK
  go_wp2_with fail
  go_loopw [27] (fun iv wr => ∃ (i : Nat) (rs : List (Value × List Bool)), i ≤ k ∧ iv = .int .i64 i ∧ Hid (∃ y, rs = rs0.set k y) ∧ Hid (rs.map (·.2) = pRows hs k n (pastRow hs (pastsR hs k) k i)) ∧ Hid (Own w (BTab rb n rs * (EvO eb x * R)) wr)) (fun iv _ => k - (intOf iv).toNat)
  case atStart => exact ⟨0, rs0, Nat.zero_le _, rfl, Lib.hid (by obtain ⟨v, hv⟩ := map_at HM.out (pRows_at hs k n _); exact ⟨_, (set_same hv).symm⟩), Lib.hid (by rw [HM.out]; unfold pastRow; rw [HLN.out]), HP⟩
  case round =>
    clear HM HP
    obtain ⟨i, rs, hi, rfl, HY, HM, HO⟩ := hrel
    by_cases hlt : i < k
    rotate_left
    · have hik : i = k := by omega
      subst hik
      go_wp2_with fail
      apply HK.out
      obtain ⟨y, hy⟩ := HY.out
      exact ⟨rs, y, hy, HM.out, HO.out⟩
    obtain ⟨p, hp⟩ : ∃ p, p = evAt hs i := ⟨_, rfl⟩
    obtain ⟨aa, pb, po, ps, rfl, hea, hcs, _⟩ := HV.out.more.more.at HO.out i (by rw [HLN.out]; omega)
    rw [← hp] at hcs
    obtain ⟨c0, c1, c2⟩ := hcs _ HO.out
    obtain ⟨d0, d1, d2⟩ := (HO.out.perm (star_left_comm _ _ _)).ev
    have hstep : pastRow hs (pastsR hs k) k (i + 1) = if directB p x then orRow ((pastRow hs (pastsR hs k) k i).set i true) ((pastsR hs k).getD i []) else pastRow hs (pastsR hs k) k i := by rw [hp, HX.out]; rfl
    obtain ⟨D, hD⟩ : ∃ D, D = directB p x := ⟨_, rfl⟩
    rw [← hD] at hstep
    obtain ⟨p1, p2, p3⟩ := p
    obtain ⟨x1, x2, x3⟩ := x
    simp only at c0 c1 c2 d0 d1 d2
    have i0 : (0 : Int) ≤ (i : Int) := by omega
    have i1 : (i : Int) < (n : Int) := by omega
    have k0 : (0 : Int) ≤ (k : Int) := by omega
    have k1 : (k : Int) < (n : Int) := by omega
    have HCS := Lib.hid hcs; have HP := Lib.hid hp; have HD := Lib.hid hD; have HSTEP := Lib.hid hstep
    clear hcs hp hD hstep
    go_upto_region 9 with fail
    go_cut [7] from 30 to 60 (fun tv wx => tv = .bool D ∧ ∃ nq, wx = wr.drewN nq)
    case first =>
      rcases (show ((p1 == x1) = true ∧ D = true) ∨ ((p1 == x1) = false ∧ (x2 == 3) = false ∧ D = false) ∨ ((p1 == x1) = false ∧ (x2 == 3) = true ∧ (p2 == 2) = false ∧ D = false) ∨ ((p1 == x1) = false ∧ (x2 == 3) = true ∧ (p2 == 2) = true ∧ D = (p3 == x3)) by
        rw [HD.out]; unfold directB
        by_cases b1 : p1 = x1 <;> by_cases b2 : x2 = 3 <;> by_cases b3 : p2 = 2 <;> simp [b1, b2, b3, Bool.beq_eq_decide_eq]) with ⟨b1, b4⟩ | ⟨b1, b2, b4⟩ | ⟨b1, b2, b3, b4⟩ | ⟨b1, b2, b3, b4⟩
      all_goals
        have B4 := Lib.hid b4
        clear b4
        go_quiet (fail)
        go_wp2_with fail
        go_meet
        exact ⟨by rw [B4.out], _, rfl⟩
    case rest =>
    obtain ⟨rfl, nq, rfl⟩ := hcut
    have HO2 := Lib.hid (HO.out.drewN nq)
    clear HO c0 c1 c2 d0 d1 d2
    generalize wr.drewN nq = wc at *
    cases D
    · have hM := HM.out
      rw [← (show pastRow hs (pastsR hs k) k (i + 1) = pastRow hs (pastsR hs k) k i by rw [HSTEP.out, if_neg (by simp)])] at hM
      have HM := Lib.hid hM
      clear hM
      go_wp2_with fail
      go_roundw
      case rel => exact ⟨i + 1, rs, by omega, by go_num, HY, HM, HO2⟩
      case measure => simp [intOf]; omega
    · have hstep := HSTEP.out
      rw [if_pos rfl] at hstep
      have hl := pastRow_len hs (pastsR hs k) k (pastsR_row hs k) i (by rw [pastsR_len]; omega)
      have hm : (pastsR hs k).getD i [] ∈ pastsR hs k := by
        rw [List.getD_eq_getElem?_getD, List.getElem?_eq_getElem (by rw [pastsR_len]; exact hlt)]
        exact List.getElem_mem _
      have hl2 := pastsR_row hs k _ hm
      obtain ⟨kv, hkv⟩ := map_at HM.out (pRows_at hs k n _)
      obtain ⟨sv, hsv⟩ := map_at HM.out (pRows_lt hs k n i _ hlt)
      have hM := HM.out
      obtain ⟨r, hr⟩ : ∃ r, r = pastRow hs (pastsR hs k) k i := ⟨_, rfl⟩
      obtain ⟨s, hs2⟩ : ∃ s, s = (pastsR hs k).getD i [] := ⟨_, rfl⟩
      rw [← hr] at hkv hl hM
      rw [← hs2] at hsv hl2
      rw [← hr, ← hs2] at hstep
      rw [HLN.out] at hl hl2
      obtain ⟨kb, ko, kcap, rfl⟩ := HO2.out.bt_shape hkv (by omega)
      obtain ⟨sb, so, scap, rfl⟩ := HO2.out.bt_shape hsv (by omega)
      rw [hl] at hkv
      rw [hl2] at hsv
      obtain ⟨g1, g2, g3, g4, g5, g6⟩ := HO2.out.bt_put hkv rfl (by omega)
      have c1 := HO2.out.bt_cell hkv
      have d5 := g5 i (r.getD i false) (by rw [List.getD_eq_getElem?_getD, List.getElem?_eq_getElem (by omega)]; rfl)
      have f1 := HO2.out.bt_free
      have st := g6 i true (by omega)
      have hkr : k < rs.length := (List.getElem?_eq_some_iff.1 hkv).1
      have e1 : (rs.set k (Value.slice (some ⟨kb, ko, none⟩) n kcap, r.set i true))[k]? = some (.slice (some ⟨kb, ko, none⟩) n kcap, r.set i true) := by simp [hkr]
      have e2 : (rs.set k (Value.slice (some ⟨kb, ko, none⟩) n kcap, r.set i true))[i]? = some (.slice (some ⟨sb, so, none⟩) n scap, s) := by rw [List.getElem?_set, if_neg (by omega)]; exact hsv
      have hfin : ((rs.set k (Value.slice (some ⟨kb, ko, none⟩) n kcap, r.set i true)).set k (.slice (some ⟨kb, ko, none⟩) n kcap, orRow (r.set i true) s)).map (·.2) = pRows hs k n (pastRow hs (pastsR hs k) k (i + 1)) := by
        rw [List.set_set, map_put hM, pRows_set, hstep]
      have c2 := st.bt_cell e2
      have hrl : (r.set i true).length = n ∧ s.length = n := ⟨by rw [List.length_set]; exact hl, hl2⟩
      have E1 := Lib.hid e1
      have E2 := Lib.hid e2
      have ST := Lib.hid st
      have HRL := Lib.hid hrl
      have HFIN := Lib.hid hfin
      clear hstep HSTEP hkv hsv hM HM hr hs2 hm g1 g5 g6 st e1 e2 hrl hfin hl hl2 hkr
      obtain ⟨w2, hw2⟩ : ∃ w2, w2 = wc.setCell ⟨kb, ko + i, none⟩ (.bool true) := ⟨_, rfl⟩
      rw [← hw2] at c2 ST
      go_upto_region 12 with fail
      rw [← hw2]
      clear hw2 c1 f1 g4 d5
      go_upto_block 4 with fail
      refine paOr w (EvO eb (x1, x2, x3) * R) rb n k i kb ko kcap sb so scap _ (r.set i true) s hk hlt hn E1 E2 HRL ST ?_
      intros
      rename_i hcut
      have HO3 := Lib.hid hcut
      clear hcut
      go_wp2_with fail
      go_roundw
      case rel => exact ⟨i + 1, _, by omega, by go_num, Lib.hid (by obtain ⟨y, hy⟩ := HY.out; rw [hy]; simp only [List.set_set]; exact ⟨_, rfl⟩), HFIN, HO3⟩
      case measure => simp [intOf]; omega
end Go.Proofs.Ytddbjcpfgjcmnaa
