/- Contracts of package history, continued: the middle loop of Pasts. -/
import Derived.Test.YtdfjbnfdknpahaaGreatDoorMRunAnswers8
import Derived.Test.YtdfjbnfdknpahaaGreatDoorMRunAnswers1
import Derived.Test.YtdfjbnfdknpahaaGreatDoorMRunAnswers2
import Derived.Test.YtdfjbnfdknpahaaGreatDoorMRunAnswers7
namespace Go.Proofs.YtdfjbnfdknpahaaGreatDoor
set_option linter.unusedVariables false
set_option linter.unusedSimpArgs false
open Go.RowKit
def pRows (hs : List Ev) (k n : Nat) (r : List Bool) : List (List Bool) := pastsR hs k ++ r :: List.replicate (n - k - 1) []
theorem pRows_at (hs : List Ev) (k n : Nat) (r : List Bool) : (pRows hs k n r)[k]? = some r := by
  unfold pRows
  rw [List.getElem?_append_right (by rw [pastsR_len]; omega), pastsR_len]; simp
theorem pRows_lt (hs : List Ev) (k n i : Nat) (r : List Bool) (hi : i < k) : (pRows hs k n r)[i]? = some ((pastsR hs k).getD i []) := by
  unfold pRows
  rw [List.getElem?_append_left (by rw [pastsR_len]; exact hi), List.getElem?_eq_getElem (by rw [pastsR_len]; exact hi), List.getD_eq_getElem?_getD, List.getElem?_eq_getElem (by rw [pastsR_len]; exact hi)]
  rfl
theorem pRows_set (hs : List Ev) (k n : Nat) (r r' : List Bool) : (pRows hs k n r).set k r' = pRows hs k n r' := by
  unfold pRows
  rw [List.set_append_right _ _ (by rw [pastsR_len]; omega), pastsR_len]; simp
theorem map_at {α β : Type} {rs : List (α × β)} {L : List β} {k : Nat} {r : β} (h : rs.map (·.2) = L) (hk : L[k]? = some r) : ∃ v, rs[k]? = some (v, r) := by
  rw [← h, List.getElem?_map, Option.map_eq_some_iff] at hk
  obtain ⟨⟨v, r'⟩, h1, h2⟩ := hk
  simp only at h2
  exact ⟨v, by rw [h1, h2]⟩
theorem map_put {α β : Type} {rs : List (α × β)} {L : List β} {k : Nat} {v : α} {r : β} (h : rs.map (·.2) = L) : (rs.set k (v, r)).map (·.2) = L.set k r := by
  rw [List.map_set, h]
theorem Own.bt_shape {w0 w : World} {rb n k : Nat} {rs : List (Value × List Bool)} {R : HProp} {v : Value} {l : List Bool} (h : Own w0 (BTab rb n rs * R) w) (hk : rs[k]? = some (v, l)) (hp : 0 < l.length) : ∃ b o cap, v = .slice (some ⟨b, o, none⟩) l.length cap := by
  obtain ⟨hlt, he⟩ := List.getElem?_eq_some_iff.1 hk
  obtain ⟨b, o, cap, e, _⟩ := h.bt_row hlt (by rw [he]; exact hp)
  rw [he] at e
  exact ⟨b, o, cap, e⟩
noncomputable def paMid_code : Code := ((Tryz.f108.body.bind (findBlock 2)).getD .skip)
set_option maxRecDepth 1000000 in
set_option maxHeartbeats 4000000 in
theorem paMid {Q : Exit → Act → World → Prop} {u1 u2 u6 u7 u8 u9 u10 u11 u12 u13 u14 u15 u16 u17 u18 u19 u20 u21 u22 u23 u24 u25 u28 u29 u30 u31 u32 u33 u34 u35 u36 u37 u38 u39 u40 u41 u42 u43 u44 u45 u46 u47 u48 u49 u50 u51 u52 u53 u54 u55 u56 u57 u58 u59 u60 u61 u62 u63 u64 u65 u66 u67 u68 u69 u70 u71 u72 u73 u74 u75 u76 u77 u78 u79 u80 u81 u82 u83 u84 u85 u86 u87 u88 u89 u90 u91 u92 u93 u94 u95 u96 u97 u98 : Value} {w1 : World} (w : World) (R : HProp) (rb n k eb hcap : Nat) (had : Option Addr) (hs : List Ev) (x : Ev) (rs0 : List (Value × List Bool)) (hk : k < n) (hn : n ≤ 60) (hc1 : n ≤ hcap) (hc2 : hcap ≤ 9223372036854775807) (HLN : Hid (hs.length = n)) (HX : Hid (x = evAt hs k)) (HV : Hid (ReadsE w R (.slice had n hcap) hs)) (HM : Hid (rs0.map (·.2) = pRows hs k n (List.replicate n false))) (HP : Hid (Own w (BTab rb n rs0 * (EvO eb x * R)) w1))
    (hK : ∀ (v6 v7 v8 v9 v27 v28 v29 v30 v31 v32 v33 v34 v35 v36 v37 v38 v39 v40 v41 v42 v43 v44 v45 v46 v47 v48 v49 v50 v51 v52 v53 v54 v55 v56 v57 v58 v59 v60 v61 v62 v63 v64 v65 v66 v67 v68 v69 v70 v71 v72 v73 v74 v75 v76 v77 v78 v79 v80 v81 v82 v83 v84 v85 v86 v87 v88 v89 v90 v91 v92 v93 v94 v95 v96 : Value) (wx : World), (∃ rs' y, rs' = rs0.set k y ∧ rs'.map (·.2) = pRows hs k n (pastRow hs (pastsR hs k) k k) ∧ Own w (BTab rb n rs' * (EvO eb x * R)) wx) → Q .normal ⟨List.toArray ((.slice had n hcap) :: u1 :: u2 :: (.slice (some ⟨rb, 0, none⟩) n n) :: (.int .i64 (k : Int)) :: (.pointer (some ⟨eb, 0, none⟩)) :: v6 :: v7 :: v8 :: v9 :: u10 :: u11 :: u12 :: u13 :: u14 :: u15 :: u16 :: u17 :: u18 :: u19 :: u20 :: u21 :: u22 :: u23 :: u24 :: u25 :: (.int .i64 (k : Int)) :: v27 :: v28 :: v29 :: v30 :: v31 :: v32 :: v33 :: v34 :: v35 :: v36 :: v37 :: v38 :: v39 :: v40 :: v41 :: v42 :: v43 :: v44 :: v45 :: v46 :: v47 :: v48 :: v49 :: v50 :: v51 :: v52 :: v53 :: v54 :: v55 :: v56 :: v57 :: v58 :: v59 :: v60 :: v61 :: v62 :: v63 :: v64 :: v65 :: v66 :: v67 :: v68 :: v69 :: v70 :: v71 :: v72 :: v73 :: v74 :: v75 :: v76 :: v77 :: v78 :: v79 :: v80 :: v81 :: v82 :: v83 :: v84 :: v85 :: v86 :: v87 :: v88 :: v89 :: v90 :: v91 :: v92 :: v93 :: v94 :: v95 :: v96 :: u97 :: u98 :: []), []⟩ wx) :
    Code.wp Tryz.prog paMid_code Q ⟨List.toArray ((.slice had n hcap) :: u1 :: u2 :: (.slice (some ⟨rb, 0, none⟩) n n) :: (.int .i64 (k : Int)) :: (.pointer (some ⟨eb, 0, none⟩)) :: u6 :: u7 :: u8 :: u9 :: u10 :: u11 :: u12 :: u13 :: u14 :: u15 :: u16 :: u17 :: u18 :: u19 :: u20 :: u21 :: u22 :: u23 :: u24 :: u25 :: (.int .i64 (k : Int)) :: (.int .i64 0) :: u28 :: u29 :: u30 :: u31 :: u32 :: u33 :: u34 :: u35 :: u36 :: u37 :: u38 :: u39 :: u40 :: u41 :: u42 :: u43 :: u44 :: u45 :: u46 :: u47 :: u48 :: u49 :: u50 :: u51 :: u52 :: u53 :: u54 :: u55 :: u56 :: u57 :: u58 :: u59 :: u60 :: u61 :: u62 :: u63 :: u64 :: u65 :: u66 :: u67 :: u68 :: u69 :: u70 :: u71 :: u72 :: u73 :: u74 :: u75 :: u76 :: u77 :: u78 :: u79 :: u80 :: u81 :: u82 :: u83 :: u84 :: u85 :: u86 :: u87 :: u88 :: u89 :: u90 :: u91 :: u92 :: u93 :: u94 :: u95 :: u96 :: u97 :: u98 :: []), []⟩ w1 := by
  conv => arg 2; whnf
  have HK := Lib.hid hK
  clear hK
  go_wp2_with fail
  go_loopw [27] (fun iv wr => ∃ (i : Nat) (rs : List (Value × List Bool)), i ≤ k ∧ iv = .int .i64 i ∧ Hid (∃ y, rs = rs0.set k y) ∧ Hid (rs.map (·.2) = pRows hs k n (pastRow hs (pastsR hs k) k i)) ∧ Hid (Own w (BTab rb n rs * (EvO eb x * R)) wr)) (fun iv _ => k - (intOf iv).toNat)
  case atStart => exact ⟨0, rs0, Nat.zero_le _, rfl, Lib.hid (by obtain ⟨v, hv⟩ := map_at HM.out (pRows_at hs k n _); exact ⟨_, (set_same hv).symm⟩), Lib.hid (by rw [HM.out]; unfold pastRow; rw [HLN.out]), HP⟩
  case round =>
    clear HM HP
    obtain ⟨i, rs, hi, rfl, HY, HM, HO⟩ := hrel
    by_cases hlt : i < k
    rotate_left
    · have hik : i = k := by omega
      subst hik
      go_wp2_with fail
      apply HK.out
      obtain ⟨y, hy⟩ := HY.out
      exact ⟨rs, y, hy, HM.out, HO.out⟩
    obtain ⟨p, hp⟩ : ∃ p, p = evAt hs i := ⟨_, rfl⟩
    obtain ⟨aa, pb, po, ps, rfl, hea, hcs, _⟩ := HV.out.more.more.at HO.out i (by rw [HLN.out]; omega)
    rw [← hp] at hcs
    obtain ⟨c0, c1, c2⟩ := hcs _ HO.out
    obtain ⟨d0, d1, d2⟩ := (HO.out.perm (star_left_comm _ _ _)).ev
    have hstep : pastRow hs (pastsR hs k) k (i + 1) = if directB p x then orRow ((pastRow hs (pastsR hs k) k i).set i true) ((pastsR hs k).getD i []) else pastRow hs (pastsR hs k) k i := by rw [hp, HX.out]; rfl
    obtain ⟨D, hD⟩ : ∃ D, D = directB p x := ⟨_, rfl⟩
    rw [← hD] at hstep
    obtain ⟨p1, p2, p3⟩ := p
    obtain ⟨x1, x2, x3⟩ := x
    simp only at c0 c1 c2 d0 d1 d2
    have i0 : (0 : Int) ≤ (i : Int) := by omega
    have i1 : (i : Int) < (n : Int) := by omega
    have k0 : (0 : Int) ≤ (k : Int) := by omega
    have k1 : (k : Int) < (n : Int) := by omega
    have HCS := Lib.hid hcs; have HP := Lib.hid hp; have HD := Lib.hid hD; have HSTEP := Lib.hid hstep
    clear hcs hp hD hstep
    go_upto_region 9 with fail
    go_cut [7] from 30 to 60 (fun tv wx => tv = .bool D ∧ ∃ nq, wx = wr.drewN nq)
    case first =>
      rcases (show ((p1 == x1) = true ∧ D = true) ∨ ((p1 == x1) = false ∧ (x2 == 3) = false ∧ D = false) ∨ ((p1 == x1) = false ∧ (x2 == 3) = true ∧ (p2 == 2) = false ∧ D = false) ∨ ((p1 == x1) = false ∧ (x2 == 3) = true ∧ (p2 == 2) = true ∧ D = (p3 == x3)) by
        rw [HD.out]; unfold directB
        by_cases b1 : p1 = x1 <;> by_cases b2 : x2 = 3 <;> by_cases b3 : p2 = 2 <;> simp [b1, b2, b3, Bool.beq_eq_decide_eq]) with ⟨b1, b4⟩ | ⟨b1, b2, b4⟩ | ⟨b1, b2, b3, b4⟩ | ⟨b1, b2, b3, b4⟩
      all_goals
        have B4 := Lib.hid b4
        clear b4
        go_quiet (fail)
        go_wp2_with fail
        go_meet
        exact ⟨by rw [B4.out], _, rfl⟩
    case rest =>
    obtain ⟨rfl, nq, rfl⟩ := hcut
    have HO2 := Lib.hid (HO.out.drewN nq)
    clear HO c0 c1 c2 d0 d1 d2
    generalize wr.drewN nq = wc at *
    cases D
    · have hM := HM.out
      rw [← (show pastRow hs (pastsR hs k) k (i + 1) = pastRow hs (pastsR hs k) k i by rw [HSTEP.out, if_neg (by simp)])] at hM
      have HM := Lib.hid hM
      clear hM
      go_wp2_with fail
      go_roundw
      case rel => exact ⟨i + 1, rs, by omega, by go_num, HY, HM, HO2⟩
      case measure => simp [intOf]; omega
    · have hstep := HSTEP.out
      rw [if_pos rfl] at hstep
      have hl := pastRow_len hs (pastsR hs k) k (pastsR_row hs k) i (by rw [pastsR_len]; omega)
      have hm : (pastsR hs k).getD i [] ∈ pastsR hs k := by
        rw [List.getD_eq_getElem?_getD, List.getElem?_eq_getElem (by rw [pastsR_len]; exact hlt)]
        exact List.getElem_mem _
      have hl2 := pastsR_row hs k _ hm
      obtain ⟨kv, hkv⟩ := map_at HM.out (pRows_at hs k n _)
      obtain ⟨sv, hsv⟩ := map_at HM.out (pRows_lt hs k n i _ hlt)
      have hM := HM.out
      obtain ⟨r, hr⟩ : ∃ r, r = pastRow hs (pastsR hs k) k i := ⟨_, rfl⟩
      obtain ⟨s, hs2⟩ : ∃ s, s = (pastsR hs k).getD i [] := ⟨_, rfl⟩
      rw [← hr] at hkv hl hM
      rw [← hs2] at hsv hl2
      rw [← hr, ← hs2] at hstep
      rw [HLN.out] at hl hl2
      obtain ⟨kb, ko, kcap, rfl⟩ := HO2.out.bt_shape hkv (by omega)
      obtain ⟨sb, so, scap, rfl⟩ := HO2.out.bt_shape hsv (by omega)
      rw [hl] at hkv
      rw [hl2] at hsv
      obtain ⟨g1, g2, g3, g4, g5, g6⟩ := HO2.out.bt_put hkv rfl (by omega)
      have c1 := HO2.out.bt_cell hkv
      have d5 := g5 i (r.getD i false) (by rw [List.getD_eq_getElem?_getD, List.getElem?_eq_getElem (by omega)]; rfl)
      have f1 := HO2.out.bt_free
      have st := g6 i true (by omega)
      have hkr : k < rs.length := (List.getElem?_eq_some_iff.1 hkv).1
      have e1 : (rs.set k (Value.slice (some ⟨kb, ko, none⟩) n kcap, r.set i true))[k]? = some (.slice (some ⟨kb, ko, none⟩) n kcap, r.set i true) := by simp [hkr]
      have e2 : (rs.set k (Value.slice (some ⟨kb, ko, none⟩) n kcap, r.set i true))[i]? = some (.slice (some ⟨sb, so, none⟩) n scap, s) := by rw [List.getElem?_set, if_neg (by omega)]; exact hsv
      have hfin : ((rs.set k (Value.slice (some ⟨kb, ko, none⟩) n kcap, r.set i true)).set k (.slice (some ⟨kb, ko, none⟩) n kcap, orRow (r.set i true) s)).map (·.2) = pRows hs k n (pastRow hs (pastsR hs k) k (i + 1)) := by
        rw [List.set_set, map_put hM, pRows_set, hstep]
      have c2 := st.bt_cell e2
      have hrl : (r.set i true).length = n ∧ s.length = n := ⟨by rw [List.length_set]; exact hl, hl2⟩
      have E1 := Lib.hid e1
      have E2 := Lib.hid e2
      have ST := Lib.hid st
      have HRL := Lib.hid hrl
      have HFIN := Lib.hid hfin
      clear hstep HSTEP hkv hsv hM HM hr hs2 hm g1 g5 g6 st e1 e2 hrl hfin hl hl2 hkr
      obtain ⟨w2, hw2⟩ : ∃ w2, w2 = wc.setCell ⟨kb, ko + i, none⟩ (.bool true) := ⟨_, rfl⟩
      rw [← hw2] at c2 ST
      go_upto_region 12 with fail
      rw [← hw2]
      clear hw2 c1 f1 g4 d5
      go_upto_block 4 with fail
      refine paOr w (EvO eb (x1, x2, x3) * R) rb n k i kb ko kcap sb so scap _ (r.set i true) s hk hlt hn E1 E2 HRL ST ?_
      intros
      rename_i hcut
      have HO3 := Lib.hid hcut
      clear hcut
      go_wp2_with fail
      go_roundw
      case rel => exact ⟨i + 1, _, by omega, by go_num, Lib.hid (by obtain ⟨y, hy⟩ := HY.out; rw [hy]; simp only [List.set_set]; exact ⟨_, rfl⟩), HFIN, HO3⟩
      case measure => simp [intOf]; omega
end Go.Proofs.YtdfjbnfdknpahaaGreatDoor
/- Contracts of package history, continued: Pasts. -/
namespace Go.Proofs.YtdfjbnfdknpahaaGreatDoor
set_option linter.unusedVariables false
set_option linter.unusedSimpArgs false
open Go.RowKit
theorem bools_info : (Tryz.prog.info? 203).map (fun i => (i.zero, i.size, i.bytes)) = some (some (.slice none 0 0), 1, 24) := by kernel_rfl
theorem Own.bt_nils {w0 w : World} {b n : Nat} {R : HProp} (h : Own w0 (SlAt 203 1 b 0 n n (List.replicate n (.slice none 0 0)) * R) w) : Own w0 (BTab b n (List.replicate n (.slice none 0 0, [])) * R) w := by
  refine h.perm ?_
  unfold BTab TabO
  rw [starL_nils BRow (.slice none 0 0, []) (by unfold BRow BoolSl; exact Sl_nil _ _), List.length_replicate, List.map_replicate, star_emp]
theorem Own.bt_fill {w0 w : World} {rb n k b m : Nat} {rs : List (Value × List Bool)} {R : HProp} (h : Own w0 (SlAt 4 1 b 0 m m (List.replicate m (.bool false)) * (BTab rb n rs * R)) w) (hk : rs[k]? = some (.slice none 0 0, [])) :
    Own w0 (BTab rb n (rs.set k (.slice (some ⟨b, 0, none⟩) m m, List.replicate m false)) * R) (w.setCell ⟨rb, k, none⟩ (.slice (some ⟨b, 0, none⟩) m m)) := by
  obtain ⟨hlt, he⟩ := List.getElem?_eq_some_iff.1 hk
  have h1 := (h.perm (star_left_comm _ _ _)).tab_take hlt
  rw [he] at h1
  have h2 : Own w0 (BRow (.slice (some ⟨b, 0, none⟩) m m, List.replicate m false) * (SlAt 203 1 rb 0 rs.length n (rs.map (·.1)) * (starL BRow (rs.eraseIdx k) * R))) w := by
    have h3 : Own w0 (SlAt 4 1 b 0 m m (List.replicate m (.bool false)) * (SlAt 203 1 rb 0 rs.length n (rs.map (·.1)) * (starL BRow (rs.eraseIdx k) * R))) w := by
      refine h1.drop.perm ?_
      ac_rfl
    have h4 := h3.sl_of_at
    refine h4.perm ?_
    congr 1
    unfold BRow BoolSl
    simp
  have h5 := Own.tab_put hlt h2
  rw [Nat.zero_add] at h5
  exact h5
theorem pRows_next (hs : List Ev) (k n : Nat) (hk : k < n) : pRows hs k n (pastRow hs (pastsR hs k) k k) = pastsR hs (k + 1) ++ List.replicate (n - (k + 1)) [] := by
  unfold pRows
  simp only [pastsR, List.append_assoc, List.singleton_append]
  congr 3
theorem pRows_start (hs : List Ev) (k n : Nat) (r : List Bool) (hk : k < n) : (pastsR hs k ++ List.replicate (n - k) []).set k r = pRows hs k n r := by
  unfold pRows
  rw [List.set_append_right _ _ (by rw [pastsR_len]; omega), pastsR_len, Nat.sub_self]
  obtain ⟨m, hm⟩ : ∃ m, n - k = m + 1 := ⟨n - k - 1, by omega⟩
  rw [hm]
  simp [List.replicate_succ]
set_option maxRecDepth 100000 in
set_option maxHeartbeats 4000000 in
theorem hPasts_any {w0 w : World} {R : HProp} (v : Value) (hs : List Ev) (h : Own w0 R w) (hv : ReadsE w0 R v hs) (hlen : hs.length ≤ 60) :
    Calls Tryz.prog 108 #[v] w fun e w' => ∃ b rs, e = .returned (.slice (some ⟨b, 0, none⟩) hs.length hs.length) ∧ rs.map (·.2) = pastsR hs hs.length ∧ Own w0 (BTab b hs.length rs * R) w' := by
  obtain ⟨had, hcap, rfl, hc1, hc2⟩ := (hv _ h).shape
  obtain ⟨n, hn⟩ : ∃ n, n = hs.length := ⟨_, rfl⟩
  rw [← hn] at hc1 hlen hv ⊢
  have H := Lib.hid h; have HV := Lib.hid hv; have HN := Lib.hid hn
  clear h hv hn
  go_enter Tryz.func108, Tryz.ntmps108
  go_wp2_with (at_make; refine wpList_mk rfl _ _ 201 rfl 203 24 (.slice none 0 0) Tryz.underlying201 bools_info rfl n rfl rfl (by omega) (by decide) H.out ?_; intro rb w1 ho; have H1 := Lib.hid ho.bt_nils; clear ho)
  go_loopw [15] (fun iv wr => ∃ (k : Nat) (rs : List (Value × List Bool)), k ≤ n ∧ iv = .int .i64 k ∧ Hid (rs.map (·.2) = pastsR hs k ++ List.replicate (n - k) []) ∧ Hid (∀ i, k ≤ i → i < n → rs[i]? = some (.slice none 0 0, [])) ∧ Hid (Own w0 (BTab rb n rs * R) wr)) (fun iv _ => n - (intOf iv).toNat)
  case atStart => exact ⟨0, _, Nat.zero_le _, rfl, Lib.hid (by simp [pastsR]), Lib.hid (fun i _ hi => by simp [hi]), H1⟩
  case round =>
    clear H1
    obtain ⟨k, rs, hk, rfl, HM, HZ, HO⟩ := hrel
    by_cases hlt : k < n
    rotate_left
    · have hkn : k = n := by omega
      have hm := HM.out
      rw [hkn, Nat.sub_self, List.replicate_zero, List.append_nil] at hm
      have HM := Lib.hid hm
      clear hm
      go_wp2
      go_ret
      exact ⟨rb, rs, rfl, by rw [HM.out, HN.out], HO.out⟩
    obtain ⟨aa, pb, po, ps, rfl, hea, hcs, _⟩ := HV.out.more.at HO.out k (by rw [← HN.out]; exact hlt)
    obtain ⟨x, hx⟩ : ∃ x, x = evAt hs k := ⟨_, rfl⟩
    rw [← hx] at hcs
    obtain ⟨c0, c1, c2⟩ := hcs _ HO.out
    obtain ⟨x1, x2, x3⟩ := x
    simp only at c0 c1 c2
    obtain ⟨eb, hb_eb⟩ : ∃ zz_, zz_ = (wr).heap.size := ⟨_, rfl⟩
    obtain ⟨w1, hw_w1⟩ : ∃ zz_, zz_ = (wr).alloc (.cells #[.int .i64 x1, .int .i64 x2, .int .i64 x3] 112 (0, 0)) := ⟨_, rfl⟩
    have h_HO1 := (HO.out).alloc (.cells #[.int .i64 x1, .int .i64 x2, .int .i64 x3] 112 (0, 0))
    rw [← hb_eb, ← hw_w1] at h_HO1
    have HO1 := Lib.hid h_HO1
    clear h_HO1
    have hz_ := HZ.out k (Nat.le_refl _) hlt
    have k0 : (0 : Int) ≤ (k : Int) := by omega
    have k1 : (k : Int) < (n : Int) := by omega
    have HCS := Lib.hid hcs; have HX := Lib.hid hx; have HZ_ := Lib.hid hz_
    clear hcs hx hz_
    go_upto_region 5 with fail
    rw [← hb_eb, ← hw_w1]
    clear hb_eb hw_w1
    clear c0 c1 c2
    go_upto_region 6 with (at_make; refine wpList_mk rfl _ _ 203 rfl 4 1 (.bool false) Tryz.underlying203 bool_info rfl n rfl rfl (by omega) (by decide) HO1.out ?_; intro b2 w2 ho; have ho2 := ho.perm (show _ = SlAt 4 1 b2 0 n n (List.replicate n (.bool false)) * (BTab rb n rs * (EvO eb (x1, x2, x3) * R)) by unfold EvO; ac_rfl); have c1 := (ho2.perm (star_left_comm _ _ _)).bt_cell HZ_.out; have f1 := (ho2.perm (star_left_comm _ _ _)).bt_free; have HF := Lib.hid (ho2.bt_fill HZ_.out); clear ho ho2)
    obtain ⟨w3, hw3⟩ : ∃ w3, w3 = w2.setCell ⟨rb, k, none⟩ (.slice (some ⟨b2, 0, none⟩) n n) := ⟨_, rfl⟩
    rw [← hw3] at HF ⊢
    clear c1 f1 hw3
    have hm2 : (rs.set k (.slice (some ⟨b2, 0, none⟩) n n, List.replicate n false)).map (·.2) = pRows hs k n (List.replicate n false) := by
      rw [map_put HM.out, pRows_start hs k n _ hlt]
    have HZ2 : Hid (∀ i, k + 1 ≤ i → i < n → (rs.set k (.slice (some ⟨b2, 0, none⟩) n n, List.replicate n false))[i]? = some (.slice none 0 0, [])) := Lib.hid (fun i h1 h2 => by rw [List.getElem?_set, if_neg (by omega)]; exact HZ.out i (by omega) h2)
    have HM2 := Lib.hid hm2
    clear hm2
    clear HM HZ HZ_
    go_upto_block 2 with fail
    refine paMid w0 R rb n k eb hcap (some aa) hs (x1, x2, x3) _ hlt hlen hc1 hc2 (Lib.hid HN.out.symm) HX HV HM2 HF ?_
    intros
    rename_i hcut
    obtain ⟨rs', y, hy, hm3, ho3⟩ := hcut
    have HZ3 : Hid (∀ i, k + 1 ≤ i → i < n → rs'[i]? = some (.slice none 0 0, [])) := Lib.hid (fun i h1 h2 => by rw [hy, List.getElem?_set, if_neg (by omega)]; exact HZ2.out i h1 h2)
    rw [pRows_next hs k n hlt] at hm3
    have HO3 := Lib.hid (ho3.perm (star_left_comm _ _ _)).drop
    clear ho3 hy
    have HM3 := Lib.hid hm3
    clear hm3
    go_wp2
    go_roundw
    case rel => exact ⟨k + 1, rs', by omega, by go_num, HM3, HZ3, HO3⟩
    case measure => simp [intOf]; omega
end Go.Proofs.YtdfjbnfdknpahaaGreatDoor
/- Contracts of package history, continued: Before. -/
namespace Go.Proofs.YtdfjbnfdknpahaaGreatDoor
set_option linter.unusedVariables false
set_option linter.unusedSimpArgs false
open Go.RowKit
end Go.Proofs.YtdfjbnfdknpahaaGreatDoor
/- Plain law of HistoryBefore: a beginning of a right history is a cut that could have been. -/
namespace Go.Proofs.YtdfjbnfdknpahaaGreatDoor
set_option linter.unusedVariables false
set_option linter.unusedSimpArgs false
open Go.RowKit
theorem evErr0 {ahead : List Ev} {e : Ev} (h : evErr ahead e = 0) : rightB e = true := by
  unfold evErr at h
  by_cases hr : rightB e = false
  · rw [if_pos hr] at h; cases h
  · simpa using hr
theorem rightB_who {e : Ev} (h : rightB e = true) : 0 ≤ e.1 ∧ e.1 < 5 := by
  unfold rightB at h
  simp only [Bool.and_eq_true, isMember, decide_eq_true_eq] at h
  exact h.1
theorem evAt_get {h : List Ev} {k : Nat} (hk : k < h.length) : evAt h k = h[k] := by
  unfold evAt; rw [List.getD_eq_getElem?_getD, List.getElem?_eq_getElem hk]; rfl
theorem RightH.who {h : List Ev} (hr : RightH h) {k : Nat} (hk : k < h.length) : 0 ≤ (evAt h k).1 ∧ (evAt h k).1 < 5 := by
  rw [evAt_get hk]; exact rightB_who (evErr0 (hr.2 k hk))
end Go.Proofs.YtdfjbnfdknpahaaGreatDoor
/- Contracts of package history, continued: Cut. -/
namespace Go.Proofs.YtdfjbnfdknpahaaGreatDoor
set_option linter.unusedVariables false
set_option linter.unusedSimpArgs false
open Go.RowKit
end Go.Proofs.YtdfjbnfdknpahaaGreatDoor
/- Contracts of package history, continued: Cut. -/
namespace Go.Proofs.YtdfjbnfdknpahaaGreatDoor
set_option linter.unusedVariables false
set_option linter.unusedSimpArgs false
open Go.RowKit
end Go.Proofs.YtdfjbnfdknpahaaGreatDoor
/- Owned slices of events. -/
namespace Go.Proofs.YtdfjbnfdknpahaaGreatDoor
set_option linter.unusedVariables false
set_option linter.unusedSimpArgs false
open Go.RowKit
theorem info_ev : (Tryz.prog.info? 112).map (fun i => (i.zero, i.size, i.bytes)) = some (some (.agg #[.int .i64 0, .int .i64 0, .int .i64 0]), 3, 24) := by kernel_rfl
def EvSl (v : Value) (l : List Ev) : HProp := Sl 112 3 v l.length (l.flatMap evCells)
theorem EvSl_reads {w0 : World} {R : HProp} {v : Value} {l : List Ev} (hg : ∀ e ∈ l, goodEv e) : ReadsE w0 (EvSl v l * R) v l := fun _ ho => ⟨Own.rd ho, hg⟩
theorem ev_one (l : List Ev) : ∀ u ∈ l.flatMap evCells, u.oneCell' = true := by
  intro u hu
  obtain ⟨e, _, hu⟩ := List.mem_flatMap.1 hu
  simp [evCells] at hu
  rcases hu with rfl | rfl | rfl <;> rfl
end Go.Proofs.YtdfjbnfdknpahaaGreatDoor
/- Contracts of package faces: what is heard, who hears ahead, who hears alike. -/
namespace Go.Proofs.YtdfjbnfdknpahaaGreatDoor
set_option linter.unusedVariables false
set_option linter.unusedSimpArgs false
open Go.RowKit
def heardB (who : Int) (e : Ev) : Bool := decide (e.1 = who) && !decide (e.2.1 = 1)
def heardL (h : List Ev) (who : Int) : List Int := (h.filter (heardB who)).map (·.2.2)
def idxI (l : List Int) (x : Int) : Int := whereIs (fun n => decide (n = x)) l
def hearsB (second : Int) (e : Ev) : Bool := decide (e.2.1 = 3) && decide (e.2.2 = second)
def hasAhead (h : List Ev) (first second who : Int) : Bool := decide (0 ≤ idxI (heardL h who) first) && decide (idxI (heardL h who) first ≤ idxI (heardL h who) second)
def aheadB (h : List Ev) (first second : Int) : Bool := h.all fun e => !hearsB second e || hasAhead h first second e.1
def alikeB (a b : List Int) : Bool := keepB b a == keepB a b
set_option maxRecDepth 100000 in
set_option maxHeartbeats 4000000 in
theorem equal_any (va vb : Value) (a b : List Int) (w : World) (ha : Ints w va a) (hb : Ints w vb b) :
    Calls Tryz.prog 129 #[va, vb] w fun e w' => e = .returned (.bool (a == b)) ∧ ∃ n, w' = w.drewN n := by
  obtain ⟨ad, cap, rfl, hac, hacap⟩ := ha.shape
  obtain ⟨bd, bcap, rfl, hbc, hbcap⟩ := hb.shape
  have HA := Lib.hid ha; have HB := Lib.hid hb
  clear ha hb
  by_cases hlen : a.length = b.length
  · have hl' : ((a.length : Int) != (b.length : Int)) = false := by rw [bne_eq_false_iff_eq]; omega
    have h1 : a.length ≤ b.length := by omega
    have h2 : b.length ≤ a.length := by omega
    have HL := Lib.hid hlen
    clear hlen
    go_enter Tryz.func129, Tryz.ntmps129
    go_wp2_with fail
    go_loopw [13] (fun i wr => ∃ k : Nat, k ≤ a.length ∧ i = .int .i64 k ∧ Hid ((∀ j (h : j < k) (h' : j < a.length) (h'' : j < b.length), a[j] = b[j]) ∧ ∃ n, wr = w.drewN n)) (fun i _ => a.length - (intOf i).toNat)
    case atStart => exact ⟨0, Nat.zero_le _, rfl, fun j h => by omega, 0, rfl⟩
    case round =>
      obtain ⟨k, hk, rfl, hp⟩ := hrel
      obtain ⟨n, rfl⟩ := hp.out.2
      by_cases hlt : k < a.length
      · have hlt' : k < b.length := by omega
        obtain ⟨aa, rfl, hca⟩ := HA.out.at k hlt
        obtain ⟨ab, rfl, hcb⟩ := HB.out.at k hlt'
        by_cases hle : a[k] = b[k]
        · have hb' : (a[k] != b[k]) = false := by rw [bne_eq_false_iff_eq]; exact hle
          have Hle := Lib.hid hle
          clear hle
          go_wp2_with fail
          go_quiet (fail)
          go_wp2
          go_roundw
          case rel =>
            refine ⟨k + 1, by omega, by go_num, ⟨fun j h h' h'' => ?_, _, rfl⟩⟩
            by_cases hj : j < k
            · exact hp.out.1 j hj h' h''
            · have : j = k := by omega
              subst this; exact Hle.out
          case measure => simp [intOf]; omega
        · have hb' : (a[k] != b[k]) = true := by rw [bne_iff_ne]; exact hle
          have Hle := Lib.hid hle
          clear hle
          go_wp2_with fail
          go_quiet (fail)
          go_wp2
          go_ret
          exact ⟨ret_bool (by rw [eq_comm, beq_eq_false_iff_ne]; intro e; subst e; exact Hle.out rfl), _, World.drewN_drewN _ _ _⟩
      · go_wp2
        go_ret
        exact ⟨ret_bool (by rw [eq_comm, beq_iff_eq]; exact List.ext_getElem HL.out fun j h h' => hp.out.1 j (by omega) h h'), _, rfl⟩
  · have hl' : ((a.length : Int) != (b.length : Int)) = true := by rw [bne_iff_ne]; omega
    have HL := Lib.hid hlen
    clear hlen
    go_enter Tryz.func129, Tryz.ntmps129
    go_wp2
    go_ret
    exact ⟨ret_bool (by rw [eq_comm, beq_eq_false_iff_ne]; intro e; exact HL.out (by rw [e])), 0, rfl⟩
theorem heardL_len (h : List Ev) (who : Int) : (heardL h who).length ≤ h.length := by
  unfold heardL; rw [List.length_map]; exact List.length_filter_le _ _
theorem heardL_I64 {h : List Ev} (hg : ∀ e ∈ h, goodEv e) (who : Int) : ∀ x ∈ heardL h who, I64 x := by
  intro x hx
  obtain ⟨e, he, rfl⟩ := List.mem_map.1 hx
  exact (hg e (List.mem_filter.1 he).1).2.2
theorem heardL_step (h : List Ev) (who : Int) (k : Nat) (hk : k < h.length) : heardL (h.take (k + 1)) who = if heardB who (evAt h k) then heardL (h.take k) who ++ [(evAt h k).2.2] else heardL (h.take k) who := by
  unfold heardL
  rw [List.take_succ_eq_append_getElem hk, List.filter_append, evAt_get hk]
  cases hb : heardB who h[k]
  · simp [hb]
  · simp [hb]
set_option maxRecDepth 100000 in
set_option maxHeartbeats 4000000 in
theorem heard_any {w0 w : World} {R : HProp} (v : Value) (hs : List Ev) (who : Int) (h : Own w0 R w) (hv : ReadsE w0 R v hs) (hlen : hs.length ≤ 60) :
    Calls Tryz.prog 85 #[v, .int .i64 who] w fun e w' => ∃ v', e = .returned v' ∧ Own w0 (IntSl v' (heardL hs who) * R) w' := by
  obtain ⟨had, hcap, rfl, hc1, hc2⟩ := (hv _ h).shape
  obtain ⟨n, hn⟩ : ∃ n, n = hs.length := ⟨_, rfl⟩
  rw [← hn] at hc1 hlen hv ⊢
  have H := Lib.hid h; have HV := Lib.hid hv; have HN := Lib.hid hn
  clear h hv hn
  go_enter Tryz.func85, Tryz.ntmps85
  go_wp2_with fail
  go_loopw [10, 5] (fun iv ov wr => ∃ k : Nat, k ≤ n ∧ iv = .int .i64 k ∧ Hid (Own w0 (IntSl ov (heardL (hs.take k) who) * R) wr)) (fun iv _ _ => n - (intOf iv).toNat)
  case atStart => exact ⟨0, Nat.zero_le _, rfl, Lib.hid (by rw [List.take_zero]; exact H.out.sl_nil _ _)⟩
  case round =>
    obtain ⟨k, hk, rfl, HO⟩ := hrel
    by_cases hlt : k < n
    rotate_left
    · have ho := HO.out
      rw [List.take_of_length_le (by rw [← HN.out]; omega)] at ho
      have HF := Lib.hid ho
      clear ho
      go_wp2
      go_ret
      exact ⟨_, rfl, HF.out⟩
    have hkl : k < hs.length := by rw [← HN.out]; exact hlt
    obtain ⟨aa, pb, po, ps, rfl, hea, hcs, _⟩ := HV.out.more.at HO.out k hkl
    have hst := heardL_step hs who k hkl
    obtain ⟨out, hout⟩ : ∃ out, out = heardL (hs.take k) who := ⟨_, rfl⟩
    have hol : out.length ≤ 60 := by rw [hout]; have := heardL_len (hs.take k) who; simp at this; omega
    have ho := HO.out
    rw [← hout] at ho hst
    obtain ⟨x, hx⟩ : ∃ x, x = evAt hs k := ⟨_, rfl⟩
    rw [← hx] at hcs hst
    obtain ⟨c0, c1, c2⟩ := hcs _ HO.out
    obtain ⟨x1, x2, x3⟩ := x
    simp only at c0 c1 c2
    obtain ⟨eb, hb_eb⟩ : ∃ zz_, zz_ = (wr).heap.size := ⟨_, rfl⟩
    obtain ⟨w2, hw_w2⟩ : ∃ zz_, zz_ = (wr).alloc (.cells #[.int .i64 x1, .int .i64 x2, .int .i64 x3] 112 (0, 0)) := ⟨_, rfl⟩
    have h_HO1 := (ho).alloc (.cells #[.int .i64 x1, .int .i64 x2, .int .i64 x3] 112 (0, 0))
    rw [← hb_eb, ← hw_w2] at h_HO1
    have HO1 := Lib.hid h_HO1
    clear h_HO1
    have HE1 : Hid (Own w0 (EvO eb (x1, x2, x3) * (IntSl u5 out * R)) w2) := HO1
    clear HO1
    obtain ⟨d0, d1, d2⟩ := HE1.out.ev
    simp only at d0 d1 d2
    have HA : Hid (Own w0 (Sl 3 1 u5 out.length (out.map (Value.int .i64)) * (EvO eb (x1, x2, x3) * R)) w2) := Lib.hid (HE1.out.perm (by unfold IntSl; ac_rfl))
    have HD : Hid (Own w0 (IntSl u5 out * R) w2) := Lib.hid HE1.out.drop
    have hB : heardB who (x1, x2, x3) = ((x1 == who) && (x2 != 1)) := by unfold heardB; by_cases a1 : x1 = who <;> by_cases a2 : x2 = 1 <;> simp [a1, a2]
    rw [hB] at hst
    have HCS := Lib.hid hcs; have HX := Lib.hid hx; have HOUT := Lib.hid hout; have HO := Lib.hid ho; have HST := Lib.hid hst; have HB := Lib.hid hB
    clear hcs hx hout ho hst hB
    go_upto_region 5 with fail
    rw [← hb_eb, ← hw_w2]
    clear hb_eb hw_w2
    clear c0 c1 c2
    by_cases h1 : x1 = who
    · have t1 : (x1 == who) = true := by simpa using h1
      by_cases h2 : x2 = 1
      · have t2 : (x2 != 1) = false := by simpa using h2
        have hs2 := HST.out
        rw [t1, t2] at hs2
        simp only [Bool.and_false, Bool.false_eq_true, if_false] at hs2
        have HN2 : Hid (Own w0 (IntSl u5 (heardL (hs.take (k + 1)) who) * R) w2) := Lib.hid (by rw [hs2]; exact HD.out)
        have H1 := Lib.hid h1; have H2 := Lib.hid h2; have HS2 := Lib.hid hs2
        clear h1 h2 hs2
        go_wp2_with fail
        go_roundw
        case rel => exact ⟨k + 1, by omega, by go_num, HN2⟩
        case measure => simp [intOf]; omega
      · have t2 : (x2 != 1) = true := by simpa using h2
        have hs2 := HST.out
        rw [t1, t2] at hs2
        simp only [Bool.and_true, if_true] at hs2
        have H1 := Lib.hid h1; have H2 := Lib.hid h2; have HS2 := Lib.hid hs2
        clear h1 h2 hs2
        go_wp2_with (at_builtin; refine wpList_app rfl _ _ 57 rfl 3 1 8 _ info_int Tryz.underlying57 rfl (by decide) rfl (HA.out.alloc' _) rfl (by rfl) (Rd_lit (by simp) (by unfold maxLen; omega)) (by intro u hu; simp at hu; subst hu; rfl) (by unfold maxLen; omega) (by omega) ?_; intro v' w4 hown; have HN2 : Hid (Own w0 (IntSl v' (heardL (hs.take (k + 1)) who) * R) w4) := Lib.hid (by rw [HS2.out]; exact (hown.perm (show _ = EvO eb (x1, x2, x3) * (IntSl v' (out ++ [x3]) * R) by unfold IntSl; simp; ac_rfl)).drop); clear hown)
        go_roundw
        case rel => exact ⟨k + 1, by omega, by go_num, HN2⟩
        case measure => simp [intOf]; omega
    · have t1 : (x1 == who) = false := by simpa using h1
      have hs2 := HST.out
      rw [t1] at hs2
      simp only [Bool.false_and, Bool.false_eq_true, if_false] at hs2
      have HN2 : Hid (Own w0 (IntSl u5 (heardL (hs.take (k + 1)) who) * R) w2) := Lib.hid (by rw [hs2]; exact HD.out)
      have H1 := Lib.hid h1; have HS2 := Lib.hid hs2
      clear h1 hs2
      go_wp2_with fail
      go_roundw
      case rel => exact ⟨k + 1, by omega, by go_num, HN2⟩
      case measure => simp [intOf]; omega
set_option maxRecDepth 100000 in
set_option maxHeartbeats 4000000 in
theorem alike_any {w0 w : World} {R : HProp} (va vb : Value) (A B : List Int) (h : Own w0 R w) (hA : Reads w0 R va A) (hB : Reads w0 R vb B) (ha : A.length ≤ 100000) (hb : B.length ≤ 100000) :
    Calls Tryz.prog 110 #[va, vb] w fun e w' => e = .returned (.bool (alikeB A B)) ∧ Own w0 R w' := by
  obtain ⟨ad, acap, rfl, _, _⟩ := (hA _ h).shape
  obtain ⟨bd, bcap, rfl, _, _⟩ := (hB _ h).shape
  have hAI := (hA _ h).2
  have hBI := (hB _ h).2
  have H := Lib.hid h; have HA := Lib.hid hA; have HB := Lib.hid hB; have HAI := Lib.hid hAI; have HBI := Lib.hid hBI
  clear h hA hB hAI hBI
  go_enter Tryz.func110, Tryz.ntmps110
  go_wp2_with fail
  refine (only_any _ _ A B HA.out HB.out ha H.out).mono ?_
  rintro e w2 ⟨v2, rfl, ho⟩
  have HO2 := Lib.hid ho
  clear ho
  go_wp2_with fail
  refine (only_any _ _ B A HB.out.more HA.out.more hb HO2.out).mono ?_
  rintro e w3 ⟨v3, rfl, ho⟩
  have HO3 := Lib.hid ho
  clear ho
  have h1 : Ints w3 v3 (keepB A B) := IntSl_reads (fun x hx => HBI.out x (List.mem_filter.1 hx).1) _ HO3.out
  have h2 : Ints w3 v2 (keepB B A) := IntSl_reads (fun x hx => HAI.out x (List.mem_filter.1 hx).1) _ (HO3.out.perm (star_left_comm _ _ _))
  have H1 := Lib.hid h1; have H2 := Lib.hid h2
  clear h1 h2
  go_wp2_with fail
  refine (equal_any v2 v3 _ _ _ H2.out H1.out).mono ?_
  rintro e w4 ⟨rfl, nq, rfl⟩
  obtain ⟨z, hz⟩ : ∃ z, z = (keepB B A == keepB A B) := ⟨_, rfl⟩
  rw [← hz]
  have HZ := Lib.hid hz
  clear hz
  go_wp2
  go_ret
  exact ⟨by rw [HZ.out]; rfl, (HO3.out.drewN _).drop.drop⟩
end Go.Proofs.YtdfjbnfdknpahaaGreatDoor
/- Contracts of package faces, continued: who hears ahead; what a member heard. -/
namespace Go.Proofs.YtdfjbnfdknpahaaGreatDoor
set_option linter.unusedVariables false
set_option linter.unusedSimpArgs false
open Go.RowKit
def aheadOk (h : List Ev) (first second : Int) (e : Ev) : Bool := !hearsB second e || hasAhead h first second e.1
theorem all_step {α : Type} (p : α → Bool) (d : α) (l : List α) (k : Nat) (hk : k < l.length) : (l.take (k + 1)).all p = ((l.take k).all p && p (l.getD k d)) := by
  rw [List.take_succ_eq_append_getElem hk, List.all_append, List.getD_eq_getElem?_getD, List.getElem?_eq_getElem hk]; simp
theorem all_false {α : Type} (p : α → Bool) (d : α) (l : List α) (k : Nat) (hk : k < l.length) (h : p (l.getD k d) = false) : l.all p = false := by
  rw [List.all_eq_false]
  refine ⟨l[k], List.getElem_mem hk, ?_⟩
  rw [List.getD_eq_getElem?_getD, List.getElem?_eq_getElem hk] at h
  simpa using h
set_option maxRecDepth 100000 in
set_option maxHeartbeats 4000000 in
theorem ahead_any {w0 w : World} {R : HProp} (v : Value) (hs : List Ev) (first second : Int) (h : Own w0 R w) (hv : ReadsE w0 R v hs) (hlen : hs.length ≤ 60) :
    Calls Tryz.prog 109 #[v, .int .i64 first, .int .i64 second] w fun e w' => e = .returned (.bool (aheadB hs first second)) ∧ Own w0 R w' := by
  obtain ⟨had, hcap, rfl, hc1, hc2⟩ := (hv _ h).shape
  obtain ⟨n, hn⟩ : ∃ n, n = hs.length := ⟨_, rfl⟩
  have hlen2 := hlen
  have hgood := (hv _ h).2
  have hhd := fun (R' : HProp) (w1 : World) (who : Int) (ho : Own w0 (R' * R) w1) => heard_any (.slice had hs.length hcap) hs who ho hv.more hlen
  rw [← hn] at hc1 hlen hv hhd ⊢
  have haB : aheadB hs first second = hs.all (aheadOk hs first second) := rfl
  have H := Lib.hid h; have HV := Lib.hid hv; have HN := Lib.hid hn; have HLEN2 := Lib.hid hlen2; have HGOOD := Lib.hid hgood; have HHD := Lib.hid hhd; have HAB := Lib.hid haB
  clear h hv hn hlen2 hgood hhd haB
  go_enter Tryz.func109, Tryz.ntmps109
  go_wp2_with fail
  go_loopw [13] (fun iv wr => ∃ k : Nat, k ≤ n ∧ iv = .int .i64 k ∧ Hid ((hs.take k).all (aheadOk hs first second) = true) ∧ Hid (Own w0 R wr)) (fun iv _ => n - (intOf iv).toNat)
  case atStart => exact ⟨0, Nat.zero_le _, rfl, Lib.hid rfl, H⟩
  case round =>
    obtain ⟨k, hk, rfl, HALL, HO⟩ := hrel
    by_cases hlt : k < n
    rotate_left
    · have hall := HALL.out
      rw [List.take_of_length_le (by rw [← HN.out]; omega)] at hall
      have HALL := Lib.hid hall
      clear hall
      go_wp2
      go_ret
      exact ⟨by rw [HAB.out, HALL.out]; rfl, HO.out⟩
    have hkl : k < hs.length := by rw [← HN.out]; exact hlt
    obtain ⟨aa, pb, po, ps, rfl, hea, hcs, _⟩ := HV.out.at HO.out k hkl
    obtain ⟨x, hx⟩ : ∃ x, x = evAt hs k := ⟨_, rfl⟩
    rw [← hx] at hcs
    obtain ⟨c0, c1, c2⟩ := hcs _ HO.out
    have hnext : aheadOk hs first second x = true → (hs.take (k + 1)).all (aheadOk hs first second) = true := fun h1 => by
      rw [all_step _ (0, 0, 0) hs k hkl, HALL.out, show hs.getD k (0, 0, 0) = x from hx.symm, h1]; rfl
    have hbad : aheadOk hs first second x = false → aheadB hs first second = false := fun h1 => by
      rw [HAB.out]; exact all_false _ (0, 0, 0) hs k hkl (by rw [show hs.getD k (0, 0, 0) = x from hx.symm]; exact h1)
    obtain ⟨x1, x2, x3⟩ := x
    simp only at c0 c1 c2
    obtain ⟨eb, hb_eb⟩ : ∃ zz_, zz_ = (wr).heap.size := ⟨_, rfl⟩
    obtain ⟨w2, hw_w2⟩ : ∃ zz_, zz_ = (wr).alloc (.cells #[.int .i64 x1, .int .i64 x2, .int .i64 x3] 112 (0, 0)) := ⟨_, rfl⟩
    have h_HO1 := (HO.out).alloc (.cells #[.int .i64 x1, .int .i64 x2, .int .i64 x3] 112 (0, 0))
    rw [← hb_eb, ← hw_w2] at h_HO1
    have HO1 := Lib.hid h_HO1
    clear h_HO1
    have HE1 : Hid (Own w0 (EvO eb (x1, x2, x3) * R) w2) := HO1
    clear HO1
    obtain ⟨d0, d1, d2⟩ := HE1.out.ev
    simp only at d0 d1 d2
    have HD : Hid (Own w0 R w2) := Lib.hid HE1.out.drop
    have hok : aheadOk hs first second (x1, x2, x3) = (!(decide (x2 = 3) && decide (x3 = second)) || hasAhead hs first second x1) := rfl
    have HCS := Lib.hid hcs; have HX := Lib.hid hx; have HNEXT := Lib.hid hnext; have HBAD := Lib.hid hbad
    clear hcs hx hnext hbad
    go_upto_region 4 with fail
    rw [← hb_eb, ← hw_w2]
    clear hb_eb hw_w2
    clear c0 c1 c2
    by_cases h1 : x2 = 3
    rotate_left
    · have t1 : (x2 != 3) = true := by simpa using h1
      have h2 := HNEXT.out (by rw [hok]; simp [h1])
      have H1 := Lib.hid h1; have H2 := Lib.hid h2; have HOK := Lib.hid hok
      clear h1 h2 hok
      go_wp2_with fail
      go_roundw
      case rel => exact ⟨k + 1, by omega, by go_num, H2, HD⟩
      case measure => simp [intOf]; omega
    have t1 : (x2 != 3) = false := by simpa using h1
    by_cases h3 : x3 = second
    rotate_left
    · have t2 : (x3 != second) = true := by simpa using h3
      have h2 := HNEXT.out (by rw [hok]; simp [h3])
      have H1 := Lib.hid h1; have H2 := Lib.hid h2; have H3 := Lib.hid h3; have HOK := Lib.hid hok
      clear h1 h2 h3 hok
      go_wp2_with fail
      go_roundw
      case rel => exact ⟨k + 1, by omega, by go_num, H2, HD⟩
      case measure => simp [intOf]; omega
    have t2 : (x3 != second) = false := by simpa using h3
    have hok2 : aheadOk hs first second (x1, x2, x3) = hasAhead hs first second x1 := by rw [hok]; simp [h1, h3]
    obtain ⟨p, hp⟩ : ∃ p, p = idxI (heardL hs x1) first := ⟨_, rfl⟩
    obtain ⟨q, hq⟩ : ∃ q, q = idxI (heardL hs x1) second := ⟨_, rfl⟩
    have hha : hasAhead hs first second x1 = (decide (0 ≤ p) && decide (p ≤ q)) := by unfold hasAhead; rw [← hp, ← hq]
    rw [hha] at hok2
    have H1 := Lib.hid h1; have H3 := Lib.hid h3; have HOK := Lib.hid hok; have HOK2 := Lib.hid hok2; have HHA := Lib.hid hha; have HP := Lib.hid hp; have HQ := Lib.hid hq
    clear h1 h3 hok hok2 hha hp hq
    go_wp2_with fail
    refine (HHD.out _ _ x1 HE1.out).mono ?_
    rintro e w3 ⟨v3, rfl, ho⟩
    have HO3 : Hid (Own w0 R w3) := Lib.hid ho.drop.drop
    have hi3 : Ints w3 v3 (heardL hs x1) := IntSl_reads (heardL_I64 HGOOD.out x1) _ ho
    have HI3 := Lib.hid hi3
    clear hi3
    clear ho d0 d1 d2
    go_wp2_with fail
    refine (indexInt_any v3 _ first _ HI3.out).mono ?_
    rintro e w' ⟨rfl, rfl⟩
    rw [show whereIs (fun n => decide (n = first)) (heardL hs x1) = p from HP.out.symm]
    by_cases h5 : p < 0
    · have t5 : decide (p < 0) = true := by simpa using h5
      have hb := HBAD.out (by rw [HOK2.out]; simp; omega)
      have H5 := Lib.hid h5; have HB := Lib.hid hb
      clear h5 hb
      go_wp2_with fail
      go_ret
      exact ⟨by rw [HB.out]; rfl, HO3.out⟩
    have t5 : decide (p < 0) = false := by simpa using h5
    go_wp2_with fail
    refine (indexInt_any v3 _ second _ HI3.out).mono ?_
    rintro e w' ⟨rfl, rfl⟩
    rw [show whereIs (fun n => decide (n = second)) (heardL hs x1) = q from HQ.out.symm]
    by_cases h6 : q < p
    · have t6 : decide (q < p) = true := by simpa using h6
      have hb := HBAD.out (by rw [HOK2.out]; simp; omega)
      have H5 := Lib.hid h5; have H6 := Lib.hid h6; have HB := Lib.hid hb
      clear h5 h6 hb
      go_wp2_with fail
      go_ret
      exact ⟨by rw [HB.out]; rfl, HO3.out⟩
    have t6 : decide (q < p) = false := by simpa using h6
    have h2 := HNEXT.out (by rw [HOK2.out]; simp; omega)
    have H5 := Lib.hid h5; have H6 := Lib.hid h6; have H2 := Lib.hid h2
    clear h5 h6 h2
    go_wp2_with fail
    go_roundw
    case rel => exact ⟨k + 1, by omega, by go_num, H2, HO3⟩
    case measure => simp [intOf]; omega
def heardErr (hs : List Ev) (who : Int) : Nat := if (histR hs).2 ≠ 0 then (histR hs).2 else if isMember who = false then 1 else 0
def heardE (hs : List Ev) (who : Int) : List Int := if heardErr hs who = 0 then heardL hs who else []
set_option maxRecDepth 100000 in
set_option maxHeartbeats 4000000 in
theorem facesHeard_any {w0 w : World} {R : HProp} (v : Value) (hs : List Ev) (who : Int) (h : Own w0 R w) (hv : ReadsE w0 R v hs) :
    Calls Tryz.prog 58 #[v, .int .i64 who] w fun e w' => ∃ v', e = .returned (.tuple #[v', errV (heardErr hs who)]) ∧ Own w0 (IntSl v' (heardE hs who) * R) w' := by
  obtain ⟨had, hcap, rfl, hc1, hc2⟩ := (hv _ h).shape
  obtain ⟨E, hE⟩ : ∃ E, E = (histR hs).2 := ⟨_, rfl⟩
  by_cases h0 : E = 0
  rotate_left
  · have hB : heardErr hs who = E := by unfold heardErr; rw [if_pos (by rw [← hE]; exact h0), ← hE]
    have hb_ : heardE hs who = [] := by unfold heardE; rw [hB]; simp [h0]
    have hee := errV_ne h0
    have H := Lib.hid h; have HV := Lib.hid hv; have HE := Lib.hid hE; have H0 := Lib.hid h0; have HEE := Lib.hid hee; have HB := Lib.hid hB; have HB_ := Lib.hid hb_
    clear h hv hE h0 hee hB hb_
    go_enter Tryz.func58, Tryz.ntmps58
    go_wp2_with fail
    refine (hRight_any _ hs H.out HV.out).mono ?_
    rintro e w2 ⟨rfl, ho⟩
    rw [← HE.out, HEE.out]
    have HO2 := Lib.hid ho
    clear ho
    go_wp2
    go_ret2
    exact ⟨.slice none 0 0, by rw [HB.out]; exact congrArg (fun z => Ending.returned (.tuple #[.slice none 0 0, z])) HEE.out.symm, by rw [HB_.out]; exact HO2.out.sl_nil _ _⟩
  have hee : errV E = .nilIface := by rw [h0]; rfl
  have hlen : hs.length ≤ 60 := ((histR_ok hs).1 (by rw [← hE]; exact h0)).1
  have hB : heardErr hs who = if isMember who = false then 1 else 0 := by unfold heardErr; rw [if_neg (by rw [← hE]; simpa using h0)]
  cases hm : isMember who
  · have hB1 : heardErr hs who = 1 := by rw [hB, hm]; rfl
    have hb_ : heardE hs who = [] := by unfold heardE; rw [hB1]; simp
    have H := Lib.hid h; have HV := Lib.hid hv; have HE := Lib.hid hE; have H0 := Lib.hid h0; have HEE := Lib.hid hee; have HB := Lib.hid hB; have HB_ := Lib.hid hb_; have HB1 := Lib.hid hB1
    clear h hv hE h0 hee hB hb_ hB1
    go_enter Tryz.func58, Tryz.ntmps58
    go_wp2_with fail
    refine (hRight_any _ hs H.out HV.out).mono ?_
    rintro e w2 ⟨rfl, ho⟩
    rw [← HE.out, HEE.out]
    have HO2 := Lib.hid ho
    clear ho
    go_wp2_with fail
    refine (member_any who _).mono ?_
    rintro e w' ⟨rfl, rfl⟩
    rw [hm]
    go_wp2
    go_ret2
    exact ⟨.slice none 0 0, by rw [HB1.out]; rfl, by rw [HB_.out]; exact HO2.out.sl_nil _ _⟩
  · have hB1 : heardErr hs who = 0 := by rw [hB, hm]; rfl
    have hb_ : heardE hs who = heardL hs who := by unfold heardE; rw [hB1]; simp
    have H := Lib.hid h; have HV := Lib.hid hv; have HE := Lib.hid hE; have H0 := Lib.hid h0; have HEE := Lib.hid hee; have HB := Lib.hid hB; have HB_ := Lib.hid hb_; have HB1 := Lib.hid hB1
    clear h hv hE h0 hee hB hb_ hB1
    go_enter Tryz.func58, Tryz.ntmps58
    go_wp2_with fail
    refine (hRight_any _ hs H.out HV.out).mono ?_
    rintro e w2 ⟨rfl, ho⟩
    rw [← HE.out, HEE.out]
    have HO2 := Lib.hid ho
    clear ho
    go_wp2_with fail
    refine (member_any who _).mono ?_
    rintro e w' ⟨rfl, rfl⟩
    rw [hm]
    go_wp2_with fail
    refine (heard_any _ hs who HO2.out HV.out hlen).mono ?_
    rintro e w3 ⟨v3, rfl, ho⟩
    have HO3 := Lib.hid ho
    clear ho
    go_wp2
    go_ret2
    exact ⟨v3, by rw [HB1.out]; rfl, by rw [HB_.out]; exact HO3.out⟩
end Go.Proofs.YtdfjbnfdknpahaaGreatDoor
