/- The reference's Agree: Settle: all that may be heard is heard. -/
import Derived.Test.YtpgonkecicmanaaDoorMAgreePlays13
import Derived.Test.YtpgonkecicmanaaDoorMAgreePlays4
namespace Go.Proofs.YtpgonkecicmanaaDoor
set_option linter.unusedVariables false
set_option linter.unusedSimpArgs false
open Go.RowKit Go.Maps
section
variable {cs : Array Value} {rows : List (Value × List Int)} {g : Ag} {k : Nat} {m : AgM}
theorem with_knew (hk : k < g.mem.length) {m m' : AgM} (h : m'.knew = m.knew) (j : Nat) : (agGet (agWith g k m') (j : Int)).knew = (agGet (agWith g k m) (j : Int)).knew := by
  rw [agWith_get hk, agWith_get hk]; split
  · exact h
  · rfl
theorem with_n (hk : k < g.mem.length) {m m' : AgM} (h : m'.n = m.n) (j : Nat) : (agGet (agWith g k m') (j : Int)).n = (agGet (agWith g k m) (j : Int)).n := by
  rw [agWith_get hk, agWith_get hk]; split
  · exact h
  · rfl
theorem with_heard (hk : k < g.mem.length) {m m' : AgM} (h : m'.heard = m.heard) (j : Nat) : (agGet (agWith g k m') (j : Int)).heard = (agGet (agWith g k m) (j : Int)).heard := by
  rw [agWith_get hk, agWith_get hk]; split
  · exact h
  · rfl
theorem RgIs.same (he : RgIs cs rows (agWith g k m)) (hk : k < g.mem.length) {m' : AgM} (h1 : m'.n = m.n) (h2 : m'.knew = m.knew) (h3 : m'.heard = m.heard) : RgIs cs rows (agWith g k m') :=
  he.congr (by rw [agWith_len, agWith_len]) (fun _ => rfl) rfl fun j _ => ⟨with_knew hk h2 j, with_n hk h1 j, with_heard hk h3 j⟩
theorem RgIs.setMost (he : RgIs cs rows (agWith g k m)) (hk : k < g.mem.length) (h5 : k < 5) {m' : AgM} (h2 : m'.knew = m.knew) (h3 : m'.heard = m.heard) : RgIs (cs.setIfInBounds (652 + k) (.int .i64 m'.n)) rows (agWith g k m') := by
  refine ⟨(he.1.setMost h5 m'.n).congr _ ?_ (fun _ _ => rfl) (fun _ _ _ _ => rfl) (fun _ _ _ _ => rfl) (fun w j _ _ => ?_) (fun j _ => ?_), ?_⟩
  · show (agWith g k m).mem.length = (agWith g k m').mem.length
    rw [agWith_len, agWith_len]
  · show decide _ = decide _
    rw [with_knew hk h2 j]
  · show (if j = k then m'.n else (agGet (agWith g k m) (j : Int)).n) = (agGet (agWith g k m') (j : Int)).n
    rw [agWith_get hk, agWith_get hk]
    by_cases e : j = k
    · rw [if_pos e, if_pos e]
    · rw [if_neg e, if_neg e, if_neg e]
  · rw [he.2]
    exact List.map_congr_left fun j _ => (with_heard hk h3 j).symm
theorem RgIs.setKnew (he : RgIs cs rows (agWith g k m)) (hk : k < g.mem.length) (h5 : k < 5) {v : Nat} (hv : v < 31) {m' : AgM} (h1 : m'.n = m.n) (h2 : m'.knew = setPut m.knew (v : Int)) (h3 : m'.heard = m.heard) : RgIs (cs.setIfInBounds (497 + v * 5 + k) (.bool true)) rows (agWith g k m') := by
  refine ⟨(he.1.setKnew hv h5).congr _ ?_ (fun _ _ => rfl) (fun _ _ _ _ => rfl) (fun _ _ _ _ => rfl) (fun w j _ _ => ?_) (fun j _ => ?_), ?_⟩
  · show (agWith g k m).mem.length = (agWith g k m').mem.length
    rw [agWith_len, agWith_len]
  · show (if w = v ∧ j = k then true else decide ((w : Int) ∈ (agGet (agWith g k m) (j : Int)).knew)) = decide ((w : Int) ∈ (agGet (agWith g k m') (j : Int)).knew)
    rw [agWith_get hk, agWith_get hk]
    by_cases e : j = k
    · subst e
      rw [if_pos rfl, if_pos rfl, h2]
      by_cases ew : w = v
      · subst ew; rw [if_pos ⟨rfl, rfl⟩, decide_eq_true (mem_setPut.2 (.inr rfl))]
      · rw [if_neg (fun h => ew h.1)]
        refine decide_eq_decide.2 ?_
        rw [mem_setPut]
        exact ⟨.inl, fun h => h.resolve_right (by omega)⟩
    · rw [if_neg (fun h => e h.2), if_neg e, if_neg e]
  · exact (with_n hk h1 j).symm
  · rw [he.2]
    exact List.map_congr_left fun j _ => (with_heard hk h3 j).symm
theorem RgIs.setHeard (he : RgIs cs rows (agWith g k m)) (hk : k < g.mem.length) (h5 : k < 5) (v' : Value) {m' : AgM} (h1 : m'.n = m.n) (h2 : m'.knew = m.knew) : RgIs (cs.setIfInBounds (657 + k) v') (rows.set k (v', m'.heard)) (agWith g k m') := by
  have h := he.1.setHd h5 v'
  refine ⟨?_, ?_⟩
  · rw [List.map_set]
    refine h.congr _ ?_ (fun _ _ => rfl) (fun _ _ _ _ => rfl) (fun _ _ _ _ => rfl) (fun w j _ _ => ?_) (fun j _ => ?_)
    · show (agWith g k m).mem.length = (agWith g k m').mem.length
      rw [agWith_len, agWith_len]
    · show decide _ = decide _
      rw [with_knew hk h2 j]
    · exact (with_n hk h1 j).symm
  · rw [List.map_set, he.2]
    refine List.ext_getElem? fun j => ?_
    unfold agHeards
    rw [List.getElem?_set, List.getElem?_map, List.getElem?_map, List.length_map, List.length_range]
    by_cases e : k = j
    · subst e
      rw [if_pos rfl, if_pos h5, List.getElem?_range h5, Option.map_some, agWith_get hk, if_pos rfl]
    · rw [if_neg e]
      by_cases hj : j < 5
      · rw [List.getElem?_range hj, Option.map_some, Option.map_some, agWith_get hk, agWith_get hk, if_neg (fun h => e h.symm), if_neg (fun h => e h.symm)]
      · rw [List.getElem?_eq_none (by simpa using hj)]; rfl
end
theorem BestTo.le {C : Nat → Bool} {T : Nat → St} {j b : Nat} {l : St} (h : BestTo C T j b l) : b ≤ j := by
  rcases h with ⟨h, _⟩ | ⟨_, h, _⟩
  · omega
  · exact h
theorem sl_shp {w0 w : World} {ty : TypeId} {size : Nat} {v : Value} {n : Nat} {xs : List Value} {R : HProp} (h : Own w0 (Sl ty size v n xs * R) w) : ∃ ad L cp, v = .slice ad L cp := by
  obtain ⟨ad, cp, e, _⟩ := Own.rd h
  exact ⟨ad, _, cp, e⟩
def hearsM (m : AgM) (W : List (Int × Wt)) (O : List Int) : AgM := ⟨m.n, W, m.knew, m.heard ++ O⟩
theorem distinct_len {l : List Int} (hn : l.Nodup) (hw : ∀ x ∈ l, isWord x = true) : l.length ≤ 30 := distinct_le 30 l hn fun x hx => by have := hw x hx; simp [isWord] at this; omega
noncomputable def rgHears_code : Code := ((Tryd.f15.body.bind (findBlock 0)).getD .skip)
set_option maxRecDepth 1000000 in
set_option maxHeartbeats 4000000 in
theorem rgHears {Q : Exit → Act → World → Prop} {u2 u3 u4 u5 u6 u7 u8 u9 u10 u13 u14 u15 u16 u17 u18 u19 u20 u21 u22 u23 u24 u25 u26 u27 u28 u29 u30 u31 u32 u33 u34 u35 u36 u37 u38 u39 u40 u41 u42 u43 u44 u45 u46 u47 u48 u49 u50 u51 u52 u53 u54 u55 u56 u57 u58 u59 u60 u61 u62 u63 u64 u65 u66 u67 u68 u69 u70 u71 u72 u73 u74 u75 u76 u77 u78 u79 u80 u81 u82 u83 u84 u85 u86 u87 u88 u89 u90 u91 u92 u93 u94 u95 u96 u97 u98 u99 u100 u101 u102 u103 u104 u105 u106 u107 u108 u109 u110 u111 u112 u113 u114 u115 u116 u117 u118 u119 u120 u121 u122 u123 u124 u125 u126 u127 u128 u129 u130 u131 u132 u133 u134 u135 u136 u137 u138 u139 u140 u141 u142 u143 u144 u145 u146 u147 u148 u149 u150 u151 u152 : Value} {w2 : World} {w0 : World} {R : HProp} (q k N : Nat) (g : Ag) (m : AgM) (hI : AgI g) (hN : N = g.mem.length) (hk : k < N) (h5 : N ≤ 5) (hm : AgMJ (gvOf g) N k m) (HO : Hid (Own w0 (RgP q (agWith g k m) * R) w2))
    (hK : ∀ (v11 v12 v13 v14 v15 v16 v17 v18 v65 v66 v67 v68 v69 v70 v71 v72 v73 v74 v75 v76 v77 v78 v79 v80 v81 v82 v83 v84 v85 v86 v87 v88 v89 v90 v91 v92 v93 v94 v95 v96 v97 v98 v99 v100 v101 v102 v103 v104 v105 v106 v107 v108 v109 v110 v111 v112 v113 v114 v115 v116 v117 v118 v119 v120 v121 v122 v123 v124 v125 v126 v127 v128 v129 v130 v131 v132 v133 v134 v135 v136 v137 v138 v139 v140 v141 v142 v143 v144 v145 v146 v147 v148 v149 v150 v151 : Value) (wx : World), (Own w0 (IntSl v11 (agHear m.waits.length m.waits).2 * (RgP q (agWith g k (agHearM m)) * R)) wx) → Q .normal ⟨List.toArray ((.pointer (some ⟨q, 0, none⟩)) :: (.int .i64 (k : Int)) :: u2 :: u3 :: u4 :: u5 :: u6 :: u7 :: u8 :: u9 :: u10 :: v11 :: v12 :: v13 :: v14 :: v15 :: v16 :: v17 :: v18 :: u19 :: u20 :: u21 :: u22 :: u23 :: u24 :: u25 :: u26 :: u27 :: u28 :: u29 :: u30 :: u31 :: u32 :: u33 :: u34 :: u35 :: u36 :: u37 :: u38 :: u39 :: u40 :: u41 :: u42 :: u43 :: u44 :: u45 :: u46 :: u47 :: u48 :: u49 :: u50 :: u51 :: u52 :: u53 :: u54 :: u55 :: u56 :: u57 :: u58 :: u59 :: u60 :: u61 :: u62 :: u63 :: u64 :: v65 :: v66 :: v67 :: v68 :: v69 :: v70 :: v71 :: v72 :: v73 :: v74 :: v75 :: v76 :: v77 :: v78 :: v79 :: v80 :: v81 :: v82 :: v83 :: v84 :: v85 :: v86 :: v87 :: v88 :: v89 :: v90 :: v91 :: v92 :: v93 :: v94 :: v95 :: v96 :: v97 :: v98 :: v99 :: v100 :: v101 :: v102 :: v103 :: v104 :: v105 :: v106 :: v107 :: v108 :: v109 :: v110 :: v111 :: v112 :: v113 :: v114 :: v115 :: v116 :: v117 :: v118 :: v119 :: v120 :: v121 :: v122 :: v123 :: v124 :: v125 :: v126 :: v127 :: v128 :: v129 :: v130 :: v131 :: v132 :: v133 :: v134 :: v135 :: v136 :: v137 :: v138 :: v139 :: v140 :: v141 :: v142 :: v143 :: v144 :: v145 :: v146 :: v147 :: v148 :: v149 :: v150 :: v151 :: u152 :: []), []⟩ wx) :
    Code.wp Tryd.prog rgHears_code Q ⟨List.toArray ((.pointer (some ⟨q, 0, none⟩)) :: (.int .i64 (k : Int)) :: u2 :: u3 :: u4 :: u5 :: u6 :: u7 :: u8 :: u9 :: u10 :: (.slice none 0 0) :: (.bool true) :: u13 :: u14 :: u15 :: u16 :: u17 :: u18 :: u19 :: u20 :: u21 :: u22 :: u23 :: u24 :: u25 :: u26 :: u27 :: u28 :: u29 :: u30 :: u31 :: u32 :: u33 :: u34 :: u35 :: u36 :: u37 :: u38 :: u39 :: u40 :: u41 :: u42 :: u43 :: u44 :: u45 :: u46 :: u47 :: u48 :: u49 :: u50 :: u51 :: u52 :: u53 :: u54 :: u55 :: u56 :: u57 :: u58 :: u59 :: u60 :: u61 :: u62 :: u63 :: u64 :: u65 :: u66 :: u67 :: u68 :: u69 :: u70 :: u71 :: u72 :: u73 :: u74 :: u75 :: u76 :: u77 :: u78 :: u79 :: u80 :: u81 :: u82 :: u83 :: u84 :: u85 :: u86 :: u87 :: u88 :: u89 :: u90 :: u91 :: u92 :: u93 :: u94 :: u95 :: u96 :: u97 :: u98 :: u99 :: u100 :: u101 :: u102 :: u103 :: u104 :: u105 :: u106 :: u107 :: u108 :: u109 :: u110 :: u111 :: u112 :: u113 :: u114 :: u115 :: u116 :: u117 :: u118 :: u119 :: u120 :: u121 :: u122 :: u123 :: u124 :: u125 :: u126 :: u127 :: u128 :: u129 :: u130 :: u131 :: u132 :: u133 :: u134 :: u135 :: u136 :: u137 :: u138 :: u139 :: u140 :: u141 :: u142 :: u143 :: u144 :: u145 :: u146 :: u147 :: u148 :: u149 :: u150 :: u151 :: u152 :: []), []⟩ w2 := by
  conv => arg 2; whnf
  have HK := Lib.hid hK
  clear hK
  have hkg : k < g.mem.length := by omega
  have hG : GvI (gvOf g) N := by rw [hN]; exact hI.gv (by omega)
  have k0 : (0 : Int) ≤ (k : Int) := by omega
  have k5 : (k : Int) < 5 := by omega
  obtain ⟨RES, hRES⟩ : ∃ r, r = agHear m.waits.length m.waits := ⟨_, rfl⟩
  have HS0 : Hid (AgMJ (gvOf g) N k (hearsM m m.waits []) ∧ RES = ((agHear m.waits.length m.waits).1, [] ++ (agHear m.waits.length m.waits).2)) := Lib.hid ⟨by
    unfold hearsM; rw [List.append_nil]; exact hm, by rw [hRES]; rfl⟩
  have HO0 : Hid (Own w0 (IntSl (.slice none 0 0) [] * (RgP q (agWith g k (hearsM m m.waits [])) * R)) w2) := Lib.hid (by
    unfold hearsM; rw [List.append_nil]; exact HO.out.sl_nil 3 1)
  have HI := Lib.hid hI; have HM := Lib.hid hm; have HG := Lib.hid hG; have HRES := Lib.hid hRES; have HN := Lib.hid hN; have HKG := Lib.hid hkg
  clear hI hm hG hRES hN hkg
  clear HO
  go_wp2_with fail
  go_loopg [11, 12] (2 * m.waits.length + 1) (fun gg ov bv wr => ∃ (W : List (Int × Wt)) (O : List Int) (b : Bool), 2 * W.length + (if b = true then 1 else 0) ≤ gg ∧ bv = .bool b ∧ Hid (AgMJ (gvOf g) N k (hearsM m W O) ∧ RES = ((agHear W.length W).1, O ++ (agHear W.length W).2)) ∧ (b = false → agGo W = false) ∧ Hid (Own w0 (IntSl ov O * (RgP q (agWith g k (hearsM m W O)) * R)) wr))
  case atStart => exact ⟨m.waits, [], true, by simp, rfl, HS0, by simp, HO0⟩
  case round =>
    clear HS0 HO0
    obtain ⟨W, O, b, hgg, rfl, HA, hb, HP⟩ := hrel
    cases b
    · have hgo := hb rfl
      have hF : Own w0 (IntSl u11 RES.2 * (RgP q (agWith g k (agHearM m)) * R)) wr := by
        have h1 := HA.out.2
        rw [agHear_stop hgo, List.append_nil] at h1
        rw [h1]
        refine HP.out.perm ?_
        unfold agHearM hearsM
        rw [← HRES.out, h1]
      have HF := Lib.hid hF
      clear hgo hb hF
      rw [HRES.out] at HF
      go_wp2_with fail
      apply HK.out
      exact HF.out
    have hg1 : 2 * W.length + 1 ≤ gk := by simpa using hgg
    clear hgg hb
    obtain ⟨M, hM'⟩ : ∃ M, M = hearsM m W O := ⟨_, rfl⟩
    rw [← hM'] at HA HP
    have HMJ := Lib.hid HA.out.1
    obtain ⟨b14, hb_b14⟩ : ∃ zz_, zz_ = (wr).heap.size := ⟨_, rfl⟩
    obtain ⟨w1, hw_w1⟩ : ∃ zz_, zz_ = (wr).alloc (.cells #[.int .i64 0, .int .i64 0] 32 (0, 0)) := ⟨_, rfl⟩
    have h_HB14 := (HP.out).alloc (.cells #[.int .i64 0, .int .i64 0] 32 (0, 0))
    rw [← hb_b14, ← hw_w1] at h_HB14
    have HB14 := Lib.hid h_HB14
    clear h_HB14
    have H1 : Hid (Own w0 (StO b14 (0, 0) * (RgP q (agWith g k M) * (IntSl u11 O * R))) w1) := Lib.hid (HB14.out.perm (show _ = (blk b14 _) * (RgP q (agWith g k M) * (IntSl u11 O * R)) by ac_rfl))
    clear HB14 HP
    have HM' := Lib.hid hM'
    clear hM'
    go_upto_block 2 with fail
    rw [← hb_b14, ← hw_w1]
    clear hb_b14 hw_w1
    go_cut [13] from 15 to 15 (fun bv wx => ∃ (b : Nat) (l : St), bv = .int .i64 (b : Int) ∧ BestTo (rgC g k M) (rgT g k M) 30 b l ∧ Own w0 (RgP q (agWith g k M) * (IntSl u11 O * R)) wx)
    case first =>
      refine rgBest q b14 k N g M HI.out HN.out hk h5 HMJ.out H1 ?_
      intros
      go_step
      go_step
      go_meet
      assumption
    case rest =>
    obtain ⟨b, l, rfl, hbest, ho⟩ := hcut
    have hb30 := hbest.le
    have hMw : M.waits = W := by rw [HM'.out]; rfl
    have hMk : M.knew = m.knew := by rw [HM'.out]; rfl
    have hfirst := best_first HI.out HG.out HMJ.out hbest
    have hgo := best_go HI.out HG.out HMJ.out hbest
    rw [hMw] at hfirst hgo
    obtain ⟨cs, rows, he, ho2⟩ := ho.rg_open
    obtain ⟨_, _, cst, _⟩ := ho2.rg_cells he
    obtain ⟨_, _, _, e4⟩ := cst b k (by omega) (by omega)
    rw [agWith_get HKG.out, if_pos rfl] at e4
    obtain ⟨KN, hKN⟩ : ∃ x, x = decide ((b : Int) ∈ M.knew) := ⟨_, rfl⟩
    rw [← hKN] at e4 hgo
    have b0 : (0 : Int) ≤ (b : Int) := by omega
    have b31 : (b : Int) < 31 := by omega
    have HPO : Hid (Own w0 (IntSl u11 O * (RgP q (agWith g k M) * R)) wc) := Lib.hid (ho.perm (by ac_rfl))
    clear H1 ho cst
    by_cases hno : b = 0 ∨ KN = false
    · have hgf : agGo W = false := by
        rw [hgo]
        rcases hno with rfl | rfl
        · rfl
        · simp
      have hcs : ((b : Int) != 0) = false ∨ (((b : Int) != 0) = true ∧ KN = false) := by
        by_cases h0 : b = 0
        · exact .inl (by rw [h0]; rfl)
        · exact .inr ⟨by rw [bne_iff_ne]; omega, hno.resolve_left h0⟩
      have HGF : Hid (agGo W = false) := Lib.hid hgf
      clear hgf hgo
      have HNO := Lib.hid hno; have HBEST := Lib.hid hbest; have HMW := Lib.hid hMw; have HMK := Lib.hid hMk; have HFIRST := Lib.hid hfirst; have HE := Lib.hid he; have HO2 := Lib.hid ho2; have HKN := Lib.hid hKN
      clear hno hbest hMw hMk hfirst he ho2 hKN
      rcases hcs with tb | ⟨tb, rfl⟩
      all_goals
        go_wp2_with fail
        go_roundg (2 * W.length)
        case measure => omega
        case rel => exact ⟨W, O, false, by simp, rfl, Lib.hid (by rw [← HM'.out]; exact HA.out), fun _ => HGF.out, by rw [← HM'.out]; exact HPO⟩
    have hb1 : b ≠ 0 := fun h => hno (.inl h)
    have hKT : KN = true := by
      cases KN
      · exact absurd (.inr rfl) hno
      · rfl
    subst hKT
    have hgt : agGo W = true := by rw [hgo, decide_eq_true hb1]; rfl
    have hkeys := HMJ.out.keys
    rw [hMw] at hkeys
    obtain ⟨x, hx⟩ := agFirst_has (W := W) hkeys (by rw [hfirst]; omega)
    have hstep := HMJ.out.step HG.out (by rw [hMw]; exact hgt)
    have hres := HA.out.2
    rw [agHear_go hgt hx, hfirst] at hres
    have hlen := mdel_len hx
    rw [hfirst] at hlen
    rw [hMw, hfirst] at hstep
    have hMh : M.heard = m.heard ++ O := by rw [HM'.out]; rfl
    have hM2 : (⟨M.n, mdel W (b : Int), M.knew, M.heard ++ [(b : Int)]⟩ : AgM) = hearsM m (mdel W (b : Int)) (O ++ [(b : Int)]) := by
      rw [HM'.out]
      unfold hearsM
      rw [← List.append_assoc]
    rw [hM2] at hstep
    have HNEW : Hid (AgMJ (gvOf g) N k (hearsM m (mdel W (b : Int)) (O ++ [(b : Int)])) ∧ RES = ((agHear (mdel W (b : Int)).length (mdel W (b : Int))).1, (O ++ [(b : Int)]) ++ (agHear (mdel W (b : Int)).length (mdel W (b : Int))).2)) := Lib.hid ⟨hstep, by rw [hres, List.append_assoc]; rfl⟩
    have hk5' : k < 5 := by omega
    obtain ⟨hkr, hr1, hr2⟩ := he.heard hk5'
    rw [agWith_get HKG.out, if_pos rfl] at hr1
    have hHw := distinct_len HMJ.out.nodup (heard_word HG.out HMJ.out)
    have hOl : O.length ≤ 30 := by rw [hMh, List.length_append] at hHw; omega
    obtain ⟨H, hH⟩ : ∃ h, h = M.heard := ⟨_, rfl⟩
    rw [← hH] at hr1 hHw
    have h2 : Own w0 (IntSl rows[k].1 H * (rgBlk q cs * (IntSl u11 O * (starL rowP (rows.eraseIdx k) * R)))) wc := ho2.perm (by
      rw [starL_split rowP rows k hkr]
      unfold rowP
      rw [hr1]
      ac_rfl)
    obtain ⟨ad, cap, hs⟩ := Own.int_shape h2
    obtain ⟨L, hL⟩ : ∃ L, L = H.length := ⟨_, rfl⟩
    rw [hs] at hr2
    rw [← hL] at hr2 hHw
    have H2 : Hid (Own w0 (Sl 3 1 (.slice ad L cap) L (H.map (Value.int .i64)) * (rgBlk q cs * (IntSl u11 O * (starL rowP (rows.eraseIdx k) * R)))) wc) := Lib.hid (by
      rw [hs] at h2
      unfold IntSl at h2
      rw [← hL] at h2
      exact h2)
    have e5 : wc.cell? ⟨q, 657 + k, none⟩ = some (.slice ad L cap) := (Own.cell H2.out.second _).trans hr2
    have t1 : ((b : Int) != 0) = true := by rw [bne_iff_ne]; omega
    have HIS : Hid (∀ v', RgIs (cs.setIfInBounds (657 + k) v') (rows.set k (v', H ++ [(b : Int)])) (agWith g k (hearsM m (mdel W (b : Int)) (O ++ [(b : Int)])))) := Lib.hid (fun v' => by
      have h9 := he.setHeard HKG.out hk5' v' (m' := hearsM m (mdel W (b : Int)) (O ++ [(b : Int)])) (by rw [HM'.out]; rfl) (by rw [HM'.out]; rfl)
      have e9 : (hearsM m (mdel W (b : Int)) (O ++ [(b : Int)])).heard = H ++ [(b : Int)] := by rw [hH, hMh]; unfold hearsM; rw [List.append_assoc]
      rw [e9] at h9
      exact h9)
    have HKR := Lib.hid hkr
    have HCE : Hid (cs[657 + k]? = some (.slice ad L cap)) := Lib.hid hr2
    clear h2 ho2 he hs hr1 hr2 HPO hgo hstep hres hx hkeys hM2
    have HBEST := Lib.hid hbest; have HMW := Lib.hid hMw; have HMK := Lib.hid hMk; have HFIRST := Lib.hid hfirst; have HKN := Lib.hid hKN; have HGT := Lib.hid hgt; have HNO := Lib.hid hno; have HMH := Lib.hid hMh; have HH := Lib.hid hH; have HL := Lib.hid hL
    clear hbest hMw hMk hfirst hKN hgt hno hMh hH hL
    go_upto_region 31 with fail
    refine wp_region_planH 14 [] [(true, 0), (true, 1), (true, 2), (true, 3), (true, 4), (true, 5), (true, 6), (true, 7), (true, 8), (true, 11), (true, 12), (false, 9), (false, 10), (true, 13)] [14] (fun wS => wS.cell? ⟨q, 657 + k, none⟩ = some (.slice ad L cap)) (by kernel_rfl) (by kernel_rfl) (e5) ?_
    simp only [pickH, pick, List.getElem?_cons_succ, List.getElem?_cons_zero, Option.toList, Option.map_some, List.cons_append, List.nil_append]
    repeat (refine wpPure_step ?_ rfl ?_ ?_; rotate_left; (focus (intro _; first | with_reducible rfl | (go_simp; done) | (go_simp; with_reducible rfl) | rfl)); go_simp)
    refine wpPure_nil ?_
    repeat (refine wpMix_read ?_ rfl ?_ ?_; rotate_left; (focus (intro _ hS; obtain s1 := hS; first | with_reducible rfl | (go_simp; done) | (go_simp; with_reducible rfl) | rfl)); go_simp)
    refine wpMix_write (fun K hK => ?_)
    go_simp
    obtain ⟨b3, hb_b3⟩ : ∃ zz_, zz_ = (wc).heap.size := ⟨_, rfl⟩
    obtain ⟨w8, hw_w8⟩ : ∃ zz_, zz_ = (wc).alloc (.cells #[.int .i64 (b : Int)] 3 (0, 0)) := ⟨_, rfl⟩
    have h_HB3 := (H2.out).alloc (.cells #[.int .i64 (b : Int)] 3 (0, 0))
    rw [← hb_b3, ← hw_w8] at h_HB3
    have HB3 := Lib.hid h_HB3
    clear h_HB3
    rw [← hb_b3, ← hw_w8]
    clear hb_b3 hw_w8
    have HB5 : Hid (Own w0 (Sl 3 1 (.slice ad L cap) L (H.map (Value.int .i64)) * (rgBlk q cs * ((blk b3 (.cells #[.int .i64 (b : Int)] 3 (0, 0))) * (IntSl u11 O * (starL rowP (rows.eraseIdx k) * R))))) w8.drew) := Lib.hid (HB3.out.drew.perm (by ac_rfl))
    clear HB3 H2 e5
    have e5 : w8.drew.cell? ⟨q, 657 + k, none⟩ = some (.slice ad L cap) := (Own.cell HB5.out.second _).trans HCE.out
    refine hK _ _ ⟨e5, ?_⟩
    clear hK K
    go_simp
    refine wpMix_write (fun K hK => ?_)
    have hsrc : Rd w8.drew (.slice (some ⟨b3, 0, none⟩) 1 1) 1 [.int .i64 (b : Int)] := Rd_one (fun i u hi => by
      rw [Own.cell HB5.out.third]
      match i, hi with
      | 0, hi => exact hi) (Nat.le_refl _) (by unfold maxLen; omega)
    refine step_app rfl _ _ 38 rfl 3 1 8 _ int_info Tryd.underlying38 rfl (by decide) (by rfl) HB5.out (by rfl) (by rfl) hsrc (by intro u hu; simp at hu; subst hu; rfl) (by unfold maxLen; omega) (by omega) ?_
    intro v9 w9 ho9
    have e6 : w9.cell? ⟨q, 657 + k, none⟩ = some (.slice ad L cap) := (Own.cell ho9.second _).trans HCE.out
    have ef : w9.frozen? ⟨q, 657 + k, none⟩ = false := Own.free ho9.second _ none
    obtain ⟨ad9, n9, cp9, hv9⟩ := sl_shp ho9
    have hfin : Own w0 (IntSl u11 O * (RgP q (agWith g k (hearsM m (mdel W (b : Int)) (O ++ [(b : Int)]))) * R)) (w9.setCell ⟨q, 657 + k, none⟩ v9) := by
      have h1 : Own w0 (rgBlk q (cs.setIfInBounds (657 + k) v9) * _) (w9.setCell ⟨q, 657 + k, none⟩ v9) := Own.setCell (i := 657 + k) (v := v9) ho9.second
      have e1 : Sl 3 1 v9 (L + 1) (H.map (Value.int .i64) ++ [.int .i64 (b : Int)]) = rowP (v9, H ++ [(b : Int)]) := by
        unfold rowP IntSl
        rw [List.length_append, List.map_append, ← HL.out]
        rfl
      rw [e1] at h1
      have h2 : Own w0 (rgBlk q (cs.setIfInBounds (657 + k) v9) * (starL rowP (rows.set k (v9, H ++ [(b : Int)])) * (IntSl u11 O * R))) (w9.setCell ⟨q, 657 + k, none⟩ v9) := by
        rw [starL_set rowP rows k HKR.out]
        refine (h1.perm (show _ = (blk b3 (.cells #[.int .i64 (b : Int)] 3 (0, 0))) * (rgBlk q (cs.setIfInBounds (657 + k) v9) * ((rowP (v9, H ++ [(b : Int)]) * starL rowP (rows.eraseIdx k)) * (IntSl u11 O * R))) from ?_)).drop
        ac_rfl
      exact (h2.rg_close (HIS.out v9)).perm (by ac_rfl)
    have HFIN := Lib.hid hfin
    subst hv9
    clear hsrc ho9 hfin HB5 e5
    refine hK _ _ ⟨e6, ?_⟩
    clear hK K
    go_simp
    repeat (refine wpMix_read ?_ rfl ?_ ?_; rotate_left; (focus (intro _ hS; obtain s1 := hS; first | with_reducible rfl | (go_simp; done) | (go_simp; with_reducible rfl) | rfl)); go_simp)
    refine wpMix_nil ?_
    go_wp2_with fail
    refine NoPanic.normal ?_
    clear e4 e6 ef
    obtain ⟨w10, hw10⟩ : ∃ x, x = w9.setCell ⟨q, 657 + k, none⟩ (.slice ad9 n9 cp9) := ⟨_, rfl⟩
    rw [← hw10] at HFIN ⊢
    obtain ⟨oad, ocap, hos⟩ := HFIN.out.int_shape
    obtain ⟨LO, hLO⟩ : ∃ x, x = O.length := ⟨_, rfl⟩
    have HOB : Hid (Own w0 (Sl 3 1 (.slice oad LO ocap) LO (O.map (Value.int .i64)) * (RgP q (agWith g k (hearsM m (mdel W (b : Int)) (O ++ [(b : Int)]))) * R)) w10) := Lib.hid (by
      have h1 := HFIN.out
      unfold IntSl at h1
      rw [hos, ← hLO] at h1
      exact h1)
    rw [← hLO] at hos hOl
    subst hos
    clear hw10 HFIN
    have HLO := Lib.hid hLO
    clear hLO
    go_wp2_with (at_builtin; refine wpList_app rfl _ _ 38 rfl 3 1 8 _ int_info Tryd.underlying38 rfl (by decide) rfl (HOB.out.alloc' _) rfl (by rfl) (Rd_lit (by simp) (by unfold maxLen; omega)) (by intro u hu; simp at hu; subst hu; rfl) (by unfold maxLen; omega) (by omega) ?_; intro v3 w3 ho3; have HO3 : Hid (Own w0 (IntSl v3 (O ++ [(b : Int)]) * (RgP q (agWith g k (hearsM m (mdel W (b : Int)) (O ++ [(b : Int)]))) * R)) w3) := Lib.hid (ho3.perm (by unfold IntSl; rw [List.length_append, List.map_append, ← HLO.out]; rfl)); clear ho3)
    go_roundg (2 * (mdel W (b : Int)).length + 1)
    case measure => omega
    case rel => exact ⟨mdel W (b : Int), O ++ [(b : Int)], true, by simp, rfl, HNEW, by simp, HO3⟩
end Go.Proofs.YtpgonkecicmanaaDoor
/- The reference's Agree: Settle. -/
namespace Go.Proofs.YtpgonkecicmanaaDoor
set_option linter.unusedVariables false
set_option linter.unusedSimpArgs false
open Go.RowKit Go.Maps
set_option maxRecDepth 100000 in
set_option maxHeartbeats 4000000 in
theorem rgSettle_any {w0 w : World} {R : HProp} (q : Nat) (g : Ag) (who word : Int) (hI : AgI g) (h5 : g.mem.length ≤ 5) (h : Own w0 (RgP q g * R) w) :
    Calls Tryd.prog 15 #[.pointer (some ⟨q, 0, none⟩), .int .i64 who, .int .i64 word] w fun e w' => ∃ v', e = .returned (.tuple #[v', .int .i64 (agSetErr g who word : Nat)]) ∧ Own w0 (IntSl v' (agSetOut g who word) * (RgP q (agSet g who word) * R)) w' := by
  have hbad : agSetErr g who word ≠ 0 → ∀ w', Own w0 (RgP q g * R) w' → Own w0 (IntSl (.slice none 0 0) (agSetOut g who word) * (RgP q (agSet g who word) * R)) w' := fun he w' h' => by
    unfold agSetOut agSet
    rw [if_neg he, if_neg he]
    exact h'.sl_nil 3 1
  by_cases hc : agChk g who word = 0
  rotate_left
  · have hE : agSetErr g who word = agChk g who word := agSetErr_chk hc
    have HF := Lib.hid (hbad (by rw [hE]; exact hc) w h)
    obtain ⟨E, hEE⟩ : ∃ E, E = agChk g who word := ⟨_, rfl⟩
    rw [hE, ← hEE]
    have t1 : (((E : Nat) : Int) != 0) = true := by rw [bne_iff_ne]; omega
    have HE := Lib.hid hE; have HC := Lib.hid hc; have HI := Lib.hid hI; have HEE := Lib.hid hEE; have HBAD := Lib.hid hbad; have H := Lib.hid h
    clear hE hc hI hEE hbad h
    go_enter Tryd.func15, Tryd.ntmps15
    go_wp2_with fail
    refine (rgCheck_any q g who word H.out).mono ?_
    rintro e w' ⟨rfl, rfl⟩
    rw [← HEE.out]
    go_wp2
    go_ret2
    exact ⟨_, rfl, HF.out⟩
  obtain ⟨⟨hw0, hwl⟩, hword, hsome⟩ := agChk0 hc
  have hwb : 1 ≤ word ∧ word ≤ 30 := by simpa [isWord] using hword
  obtain ⟨k, rfl⟩ : ∃ k : Nat, who = (k : Int) := ⟨who.toNat, by omega⟩
  obtain ⟨v, rfl⟩ : ∃ v : Nat, word = (v : Int) := ⟨word.toNat, by omega⟩
  have hkg : k < g.mem.length := by omega
  have hk5 : k < 5 := by omega
  have hv : v < 31 := by omega
  have v0 : (0 : Int) ≤ (v : Int) := by omega
  have v31 : (v : Int) < 31 := by omega
  have k0 : (0 : Int) ≤ (k : Int) := by omega
  have k5 : (k : Int) < 5 := by omega
  have hgp : 0 < g.mem.length := by omega
  obtain ⟨F, hF⟩ : ∃ F, F = decide ((gvOf g (v : Int)).length = g.mem.length) := ⟨_, rfl⟩
  have hE1 : agSetErr g (k : Int) (v : Int) = if F = false then 6 else if (v : Int) ∈ (agGet g (k : Int)).knew then 7 else 0 := by
    unfold agSetErr
    rw [if_neg (by rw [hc]; simp)]
    have := hI.len (v : Int)
    by_cases hl : (gvOf g (v : Int)).length = g.mem.length
    · rw [hF, decide_eq_true hl, if_neg (by omega)]; simp
    · rw [hF, decide_eq_false hl, if_pos (by omega), if_pos rfl]
  have HFN := Lib.hid (rgFinal_any q g g rfl rfl v hv hI hgp h5 h)
  rw [← hF] at HFN
  cases F
  · rw [if_pos rfl] at hE1
    have HB := Lib.hid (hbad (by rw [hE1]; simp))
    rw [hE1]
    have HE1 := Lib.hid hE1; have HC := Lib.hid hc; have HI := Lib.hid hI; have HBAD := Lib.hid hbad; have H := Lib.hid h; have HWORD := Lib.hid hword; have HSOME := Lib.hid hsome; have HF := Lib.hid hF
    clear hE1 hc hI hbad h hword hsome hF
    go_enter Tryd.func15, Tryd.ntmps15
    go_wp2_with fail
    refine (rgCheck_any q g k v H.out).mono ?_
    rintro e w' ⟨rfl, rfl⟩
    rw [HC.out]
    go_wp2_with fail
    refine HFN.out.mono ?_
    rintro e w2 ⟨xa, xb, rfl, _, ho⟩
    have HO := Lib.hid (HB.out _ (ho.alloc' (.cells #[.int .i64 xa, .int .i64 xb] 32 (0, 0))))
    clear ho
    go_wp2
    go_ret2
    exact ⟨_, rfl, HO.out⟩
  rw [if_neg (by simp)] at hE1
  have hfull : (gvOf g (v : Int)).length = g.mem.length := of_decide_eq_true hF.symm
  obtain ⟨m, hm⟩ : ∃ m, m = agGet g (k : Int) := ⟨_, rfl⟩
  obtain ⟨KN, hKN⟩ : ∃ x, x = decide ((v : Int) ∈ m.knew) := ⟨_, rfl⟩
  rw [← hm] at hE1
  have HGC : Hid (∀ w', Own w0 (RgP q g * R) w' → w'.cell? ⟨q, 497 + v * 5 + k, none⟩ = some (.bool KN)) := Lib.hid (fun w' h' => by
    obtain ⟨cs, rows, he, ho⟩ := h'.rg_open
    obtain ⟨_, _, cst, _⟩ := ho.rg_cells he
    obtain ⟨_, _, _, e⟩ := cst v k hv hk5
    rw [e, hKN, hm])
  cases KN
  rotate_left
  · have hin := of_decide_eq_true hKN.symm
    rw [if_pos hin] at hE1
    have HB := Lib.hid (hbad (by rw [hE1]; simp))
    rw [hE1]
    have HE1 := Lib.hid hE1; have HC := Lib.hid hc; have HI := Lib.hid hI; have HBAD := Lib.hid hbad; have H := Lib.hid h; have HWORD := Lib.hid hword; have HSOME := Lib.hid hsome; have HF := Lib.hid hF; have HFULL := Lib.hid hfull; have HM := Lib.hid hm; have HKN := Lib.hid hKN; have HIN := Lib.hid hin
    clear hE1 hc hI hbad h hword hsome hF hfull hm hKN hin
    go_enter Tryd.func15, Tryd.ntmps15
    go_wp2_with fail
    refine (rgCheck_any q g k v H.out).mono ?_
    rintro e w' ⟨rfl, rfl⟩
    rw [HC.out]
    go_wp2_with fail
    refine HFN.out.mono ?_
    rintro e w2 ⟨xa, xb, rfl, _, ho⟩
    have hal := ho.alloc' (.cells #[.int .i64 xa, .int .i64 xb] 32 (0, 0))
    have c1 := HGC.out _ hal
    have HO := Lib.hid (HB.out _ hal)
    clear ho hal
    go_wp2
    go_ret2
    exact ⟨_, rfl, HO.out⟩
  have hin := of_decide_eq_false hKN.symm
  rw [if_neg hin] at hE1
  have hsm := (hI.mem k hkg).settle (hI.gv hgp) hfull (hI.full hfull hkg) (by rw [← agGet_at hkg, ← hm]; exact hin)
  rw [← agGet_at hkg, ← hm] at hsm
  have HMJ : Hid (AgMJ (gvOf g) g.mem.length k (agSetM g m (v : Int))) := Lib.hid hsm
  have HRW : Hid (∀ w', Own w0 (RgP q (agWith g k m) * R) w' ↔ Own w0 (RgP q g * R) w') := Lib.hid (fun w' => by rw [hm, agWith_self hkg])
  have HEND : Hid (∀ v' w', Own w0 (IntSl v' (agHear (agSetM g m (v : Int)).waits.length (agSetM g m (v : Int)).waits).2 * (RgP q (agWith g k (agHearM (agSetM g m (v : Int)))) * R)) w' → Own w0 (IntSl v' (agSetOut g (k : Int) (v : Int)) * (RgP q (agSet g (k : Int) (v : Int)) * R)) w') := Lib.hid (fun v' w' h' => by
    rw [agSet_with hE1, ← hm]
    unfold agSetOut
    rw [if_pos hE1, ← hm]
    exact h')
  obtain ⟨mx, hmx⟩ : ∃ s, s = maxSt (gvOf g (v : Int)) := ⟨_, rfl⟩
  obtain ⟨n, hn⟩ : ∃ n, n = m.n := ⟨_, rfl⟩
  rw [hE1]
  have hvp : (v : Int) ∉ m.knew := hin
  have hmn : (agSetM g m (v : Int)).n = max n mx.1 := by rw [hn, hmx]; rfl
  have HE1 := Lib.hid hE1; have HC := Lib.hid hc; have HI := Lib.hid hI; have HBAD := Lib.hid hbad; have H := Lib.hid h; have HWORD := Lib.hid hword; have HSOME := Lib.hid hsome; have HF := Lib.hid hF; have HM := Lib.hid hm; have HKN := Lib.hid hKN; have HIN := Lib.hid hin; have HVP := Lib.hid hvp; have HSM := Lib.hid hsm
  clear hE1 hc hI hbad h hword hsome hF hm hKN hin hvp hsm
  have HFULL := Lib.hid hfull
  clear hfull
  go_enter Tryd.func15, Tryd.ntmps15
  go_wp2_with fail
  refine (rgCheck_any q g k v H.out).mono ?_
  rintro e w' ⟨rfl, rfl⟩
  rw [HC.out]
  go_wp2_with fail
  refine HFN.out.mono ?_
  rintro e w2 ⟨xa, xb, rfl, hx, ho⟩
  have hxx := hx HFULL.out
  rw [← hmx] at hxx
  subst hxx
  obtain ⟨b9, hb_b9⟩ : ∃ zz_, zz_ = (w2).heap.size := ⟨_, rfl⟩
  obtain ⟨w3, hw_w3⟩ : ∃ zz_, zz_ = (w2).alloc (.cells #[.int .i64 xa, .int .i64 xb] 32 (0, 0)) := ⟨_, rfl⟩
  have h_HB9 := (ho).alloc (.cells #[.int .i64 xa, .int .i64 xb] 32 (0, 0))
  rw [← hb_b9, ← hw_w3] at h_HB9
  have HB9 := Lib.hid h_HB9
  clear h_HB9
  have ho3 : Own w0 (RgP q (agWith g k m) * (StO b9 (xa, xb) * R)) w3 := by
    have h1 := HB9.out.perm (show _ = RgP q g * (StO b9 (xa, xb) * R) by unfold StO; ac_rfl)
    have e1 : agWith g k m = g := by rw [HM.out]; exact agWith_self hkg
    rw [e1]; exact h1
  obtain ⟨x0, x1, _⟩ := ho3.second.sto
  simp only at x0 x1
  obtain ⟨cs, rows, he, ho4⟩ := ho3.rg_open
  obtain ⟨_, _, cst, cmost, _, cf⟩ := ho4.rg_cells he
  obtain ⟨_, _, _, e4⟩ := cst v k hv hk5
  rw [agWith_get hkg, if_pos rfl] at e4
  rw [← HKN.out] at e4
  have f4 := cf (497 + v * 5 + k) none
  -- known
  obtain ⟨m1, hm1⟩ : ∃ m1 : AgM, m1 = ⟨m.n, m.waits, setPut m.knew (v : Int), m.heard⟩ := ⟨_, rfl⟩
  have he1 := he.setKnew hkg hk5 hv (m' := m1) (by rw [hm1]) (by rw [hm1]) (by rw [hm1])
  have ho5 : Own w0 (rgBlk q (cs.setIfInBounds (497 + v * 5 + k) (.bool true)) * (starL rowP rows * (StO b9 (xa, xb) * R))) (w3.setCell ⟨q, 497 + v * 5 + k, none⟩ (.bool true)) := Own.setCell (i := 497 + v * 5 + k) (v := .bool true) ho4
  obtain ⟨w4, hw4⟩ : ∃ x, x = w3.setCell ⟨q, 497 + v * 5 + k, none⟩ (.bool true) := ⟨_, rfl⟩
  obtain ⟨cs2, hcs2⟩ : ∃ x, x = cs.setIfInBounds (497 + v * 5 + k) (.bool true) := ⟨_, rfl⟩
  rw [← hw4, ← hcs2] at ho5
  rw [← hcs2] at he1
  obtain ⟨_, _, _, cmost2, _, cf2⟩ := ho5.rg_cells he1
  have e6 := cmost2 k hk5
  rw [agWith_get hkg, if_pos rfl, show m1.n = n by rw [hm1, hn]] at e6
  have f6 := cf2 (652 + k) none
  obtain ⟨z0, z1, _⟩ := ho5.third.sto
  simp only at z0 z1
  have HO5 := Lib.hid ho5
  have HE1' := Lib.hid he1
  have HM1 := Lib.hid hm1
  have HMN := Lib.hid hmn
  have HN_ := Lib.hid hn
  have HMX := Lib.hid hmx
  clear cst cmost cf cmost2 cf2 ho ho3 ho4 ho5 he he1 HB9 hx hm1 hcs2 hmn hn hmx
  go_upto_region 5 with fail
  rw [← hb_b9, ← hw_w3]
  clear hb_b9 hw_w3
  go_upto_region 10 with fail
  rw [← hw4]
  clear hw4 x0 x1 e4 f4
  obtain ⟨MM, hMM⟩ : ∃ x, x = agSetM g m (v : Int) := ⟨_, rfl⟩
  have hMk : MM.knew = m1.knew := by rw [hMM, HM1.out]; rfl
  have hMh : MM.heard = m1.heard := by rw [hMM, HM1.out]; rfl
  have hMN : MM.n = max n xa := by rw [hMM]; exact HMN.out
  rw [← hMM] at HMJ HEND
  have HM1K := Lib.hid hMk
  have HM1H := Lib.hid hMh
  have HMXN := Lib.hid hMN
  obtain ⟨D, hD⟩ : ∃ D, D = decide (n < xa) := ⟨_, rfl⟩
  clear hMM hMk hMh hMN
  go_upto_if 57 with fail
  go_quiet (fail)
  rw [← hD]
  have HD := Lib.hid hD
  clear hD
  go_upto_if 57 with fail
  obtain ⟨w5, hw5⟩ : ∃ x, x = w4.drewN nq := ⟨_, rfl⟩
  have HO5' := Lib.hid (HO5.out.drewN nq)
  rw [← hw5] at HO5' ⊢
  clear hw5 e6 f6 z0 z1
  obtain ⟨_, _, _, cmost2, _, cf2⟩ := HO5'.out.rg_cells HE1'.out
  have e6 := cmost2 k hk5
  have f6 := cf2 (652 + k) none
  obtain ⟨z0, z1, _⟩ := HO5'.out.third.sto
  simp only at z0 z1
  clear cmost2 cf2
  go_cut [] (fun wx => Own w0 (RgP q (agWith g k MM) * R) wx)
  case first =>
    cases D
    · have hgt : ¬ n < xa := of_decide_eq_false HD.out.symm
      have hx2 : MM.n = n := by rw [HMXN.out, Int.max_def]; split <;> omega
      have he2 := HE1'.out.same hkg (m' := MM) (by rw [hx2, HM1.out, HN_.out]) HM1K.out HM1H.out
      have HO6 : Hid (Own w0 (RgP q (agWith g k MM) * R) w5) := Lib.hid ((HO5'.out.rg_close he2).perm (show _ = StO b9 (xa, xb) * (RgP q (agWith g k MM) * R) by ac_rfl)).drop
      have HGT := Lib.hid hgt; have HX2 := Lib.hid hx2; have HE2 := Lib.hid he2
      clear hgt hx2 he2
      go_wp2_with fail
      go_meet
      exact HO6.out
    · have hgt : n < xa := of_decide_eq_true HD.out.symm
      have hx2 : MM.n = xa := by rw [HMXN.out, Int.max_def]; split <;> omega
      have he2 := HE1'.out.setMost hkg hk5 HM1K.out HM1H.out
      rw [hx2] at he2
      have ho6 : Own w0 (rgBlk q (cs2.setIfInBounds (652 + k) (.int .i64 xa)) * (starL rowP rows * (StO b9 (xa, xb) * R))) (w5.setCell ⟨q, 652 + k, none⟩ (.int .i64 xa)) := Own.setCell (i := 652 + k) (v := .int .i64 xa) HO5'.out
      have HO6 : Hid (Own w0 (RgP q (agWith g k MM) * R) (w5.setCell ⟨q, 652 + k, none⟩ (.int .i64 xa)).drew) := Lib.hid ((ho6.rg_close he2).drew.perm (show _ = StO b9 (xa, xb) * (RgP q (agWith g k MM) * R) by ac_rfl)).drop
      clear ho6 he2
      have HGT := Lib.hid hgt; have HX2 := Lib.hid hx2
      clear hgt hx2
      go_wp2_with fail
      refine wp_region_tail 7 (by kernel_rfl) (by kernel_rfl) ?_
      simp only [List.take_succ_cons, List.take_zero, List.drop_succ_cons, List.drop_zero]
      repeat still_step
      refine wpStill_nil ?_
      go_wp2_with fail
      go_meet
      exact HO6.out
  case rest =>
  have HO6 := Lib.hid hcut
  clear hcut e6 f6 z0 z1 HO5' HO5
  go_upto_block 0 with fail
  go_cut [11] (fun v11 wx => Own w0 (IntSl v11 (agHear MM.waits.length MM.waits).2 * (RgP q (agWith g k (agHearM MM)) * R)) wx)
  case first =>
    refine rgHears q k g.mem.length g MM HI.out rfl hkg h5 HMJ.out HO6 ?_
    intros
    go_step
    go_step
    go_meet
    assumption
  case rest =>
  have HO7 := Lib.hid (HEND.out _ _ hcut)
  clear hcut HO6
  go_wp2
  go_ret2
  exact ⟨_, rfl, HO7.out⟩
end Go.Proofs.YtpgonkecicmanaaDoor
/- AgreeTwo, plainly: two words, to which all give stamps, and which all settle. -/
namespace Go.Proofs.YtpgonkecicmanaaDoor
set_option linter.unusedVariables false
set_option linter.unusedSimpArgs false
open Go.RowKit Go.Maps
def isTwo (a b v : Int) : Bool := decide (v = a) || decide (v = b)
structure TwP (n : Nat) (a b : Int) (m : Nat) (g : Ag) : Prop where
  ag : AgN n g
  said : ∀ v, agSaid g v = isTwo a b v
  who : ∀ v k, k ∈ whoOf g v → k < (m : Int)
  has : ∀ k : Nat, k < m → (k : Int) ∈ whoOf g a ∧ (k : Int) ∈ whoOf g b
  knew : ∀ k : Nat, agKnew g k = []
theorem agSay_said {g : Ag} {w : Int} (h : agSayErr g w = 0) (v : Int) : agSaid (agSay g w) v = (decide (v = w) || agSaid g v) := by
  unfold agSaid agSay
  rw [if_pos h]
  show (mget (mput g.given w []) v).isSome = _
  rw [mget_mput]
  by_cases e : w = v
  · subst e; rw [if_pos rfl]; simp
  · rw [if_neg e]
    have e' : ¬ v = w := fun h => e h.symm
    simp [e']
theorem agNew_said (n : Nat) (v : Int) : agSaid (agNew n) v = false := rfl
theorem agSayErr_ok {g : Ag} {w : Int} (hw : isWord w = true) (h : agSaid g w = false) : agSayErr g w = 0 := by
  unfold agSayErr
  rw [if_neg (by rw [hw]; simp), if_neg (by show ¬ agSaid g w = true; rw [h]; simp)]
theorem TwP.start {n : Nat} {a b : Int} (ha : isWord a = true) (hb : isWord b = true) (hab : a ≠ b) :
    agSayErr (agNew n) a = 0 ∧ agSayErr (agSay (agNew n) a) b = 0 ∧ TwP n a b 0 (agSay (agSay (agNew n) a) b) := by
  have h1 := agSayErr_ok (g := agNew n) ha (agNew_said n a)
  have h2 : agSayErr (agSay (agNew n) a) b = 0 := agSayErr_ok hb (by rw [agSay_said h1, agNew_said]; simp; exact fun e => hab e.symm)
  refine ⟨h1, h2, ((AgN.new n).say a).say b, fun v => ?_, fun v k hk => ?_, fun k hk => by omega, fun k => ?_⟩
  · rw [agSay_said h2, agSay_said h1, agNew_said]
    unfold isTwo
    rw [Bool.or_false, Bool.or_comm]
  · unfold whoOf at hk
    rw [agSay_who, agSay_who] at hk
    cases hk
  · unfold agKnew agGet
    rw [agSay_mem, agSay_mem]
    unfold agNew
    simp only
    rw [List.getD_eq_getElem?_getD]
    rcases Nat.lt_or_ge (k : Int).toNat (List.replicate n (⟨0, [], [], []⟩ : AgM)).length with h | h
    · rw [List.getElem?_eq_getElem h]; simp
    · rw [List.getElem?_eq_none h]; rfl
theorem TwP.step {n : Nat} {a b : Int} {m : Nat} {g : Ag} (h : TwP n a b m g) (hm : m < n) (ha : isWord a = true) (hb : isWord b = true) (hab : a ≠ b) {x y : Int} (hxy : (x = a ∧ y = b) ∨ (x = b ∧ y = a)) :
    agPropErr g m x = 0 ∧ agPropErr (agProp g m x) m y = 0 ∧ TwP n a b (m + 1) (agProp (agProp g m x) m y) := by
  have hx : isWord x = true := by rcases hxy with ⟨rfl, _⟩ | ⟨rfl, _⟩ <;> assumption
  have hy : isWord y = true := by rcases hxy with ⟨_, rfl⟩ | ⟨_, rfl⟩ <;> assumption
  have hne : x ≠ y := by
    rcases hxy with ⟨rfl, rfl⟩ | ⟨rfl, rfl⟩
    · exact hab
    · exact fun e => hab e.symm
  have sx : isTwo a b x = true := by unfold isTwo; rcases hxy with ⟨rfl, _⟩ | ⟨rfl, _⟩ <;> simp
  have sy : isTwo a b y = true := by unfold isTwo; rcases hxy with ⟨_, rfl⟩ | ⟨_, rfl⟩ <;> simp
  have hno : ∀ v, (m : Int) ∉ whoOf g v := fun v hc => by have := h.who v _ hc; omega
  have e1 : agPropErr g m x = 0 := by rw [agProp_may (by rw [h.ag.len]; exact hm) hx (by rw [h.said]; exact sx), if_neg (hno x)]
  have hw1 := agProp_who e1
  have e2 : agPropErr (agProp g m x) m y = 0 := by
    rw [agProp_may (by rw [agProp_len, h.ag.len]; exact hm) hy (by rw [agProp_said, h.said]; exact sy), if_neg]
    rw [hw1, if_neg hne]; exact hno y
  have hin1 : (m : Int) ∈ whoOf (agProp (agProp g m x) m y) x := agProp_who_sub (agProp_in (by rw [h.ag.len]; exact hm) hx (by rw [h.said]; exact sx))
  have hin2 : (m : Int) ∈ whoOf (agProp (agProp g m x) m y) y := agProp_in (by rw [agProp_len, h.ag.len]; exact hm) hy (by rw [agProp_said, h.said]; exact sy)
  refine ⟨e1, e2, (h.ag.prop _ _).prop _ _, fun v => by rw [agProp_said, agProp_said]; exact h.said v, fun v k hk => ?_, fun k hk => ?_, fun k => by rw [agProp_knew _ _ _ _ (by omega), agProp_knew _ _ _ _ (by omega)]; exact h.knew k⟩
  · rcases agProp_who_in hk with hk | ⟨rfl, _⟩
    · rcases agProp_who_in hk with hk | ⟨rfl, _⟩
      · have := h.who v k hk; omega
      · omega
    · omega
  · by_cases e : k = m
    · subst e
      rcases hxy with ⟨rfl, rfl⟩ | ⟨rfl, rfl⟩
      · exact ⟨hin1, hin2⟩
      · exact ⟨hin2, hin1⟩
    · have := h.has k (by omega)
      exact ⟨agProp_who_sub (agProp_who_sub this.1), agProp_who_sub (agProp_who_sub this.2)⟩
structure TwS (n : Nat) (a b : Int) (m : Nat) (g : Ag) : Prop where
  ag : AgN n g
  said : ∀ v, agSaid g v = isTwo a b v
  full : ∀ v, isTwo a b v = true → (gvOf g v).length = n
  knew : ∀ k : Nat, k < m → a ∈ agKnew g k ∧ b ∈ agKnew g k
  not : ∀ k : Nat, m ≤ k → agKnew g k = []
theorem TwP.done {n : Nat} {a b : Int} {g : Ag} (h : TwP n a b n g) : TwS n a b 0 g := by
  refine ⟨h.ag, h.said, fun v hv => ?_, fun k hk => by omega, fun k _ => h.knew k⟩
  rw [← h.ag.len]
  refine h.ag.inv.full_of fun k hk => ?_
  rw [h.ag.len] at hk
  unfold isTwo at hv
  simp at hv
  rcases hv with rfl | rfl
  · exact (h.has k hk).1
  · exact (h.has k hk).2
theorem TwS.step {n : Nat} {a b : Int} {m : Nat} {g : Ag} (h : TwS n a b m g) (hm : m < n) (ha : isWord a = true) (hb : isWord b = true) (hab : a ≠ b) :
    agSetErr g m b = 0 ∧ agSetErr (agSet g m b) m a = 0 ∧ TwS n a b (m + 1) (agSet (agSet g m b) m a) := by
  have sa : isTwo a b a = true := by unfold isTwo; simp
  have sb : isTwo a b b = true := by unfold isTwo; simp
  have hml : m < g.mem.length := by rw [h.ag.len]; exact hm
  have e1 : agSetErr g m b = 0 := by
    rw [agSet_may hml hb (by rw [h.said]; exact sb) (by rw [h.ag.len]; exact h.full b sb), h.not m (Nat.le_refl _), if_neg (by simp)]
  have hk1 := fun k hk => agSet_knew (k := k) e1 hk
  have hml2 : m < (agSet g m b).mem.length := by rw [agSet_len]; exact hml
  have hf2 : (gvOf (agSet g m b) a).length = (agSet g m b).mem.length := by rw [agSet_gv, agSet_len, h.ag.len]; exact h.full a sa
  have e2 : agSetErr (agSet g m b) m a = 0 := by
    rw [agSet_may hml2 ha (by rw [agSet_said, h.said]; exact sa) hf2, hk1 m (by omega), if_pos rfl, h.not m (Nat.le_refl _), if_neg]
    rw [mem_setPut]
    simp
    exact hab
  have hk2 := fun k hk => agSet_knew (k := k) e2 hk
  refine ⟨e1, e2, (h.ag.set _ _).set _ _, fun v => by rw [agSet_said, agSet_said]; exact h.said v, fun v hv => by rw [agSet_gv, agSet_gv]; exact h.full v hv, fun k hk => ?_, fun k hk => ?_⟩
  · by_cases e : k = m
    · subst e
      refine ⟨agSet_in hml2 ha (by rw [agSet_said, h.said]; exact sa) hf2, agSet_knew_sub (by omega) (agSet_in hml hb (by rw [h.said]; exact sb) (by rw [h.ag.len]; exact h.full b sb))⟩
    · have := h.knew k (by omega)
      exact ⟨agSet_knew_sub (by omega) (agSet_knew_sub (by omega) this.1), agSet_knew_sub (by omega) (agSet_knew_sub (by omega) this.2)⟩
  · rw [hk2 k (by omega), if_neg (by omega), hk1 k (by omega), if_neg (by omega)]
    exact h.not k (by omega)
theorem TwS.heard {n : Nat} {a b : Int} {g : Ag} (h : TwS n a b n g) (hab : a ≠ b) {k : Nat} (hk : k < n) : (agGet g k).heard.length = 2 := by
  have hk' : k < g.mem.length := by rw [h.ag.len]; exact hk
  have hall := h.ag.inv.heard_all hk' (fun w hw => by
    have hS : isTwo a b w = true := by rw [← h.said w]; exact hw
    refine ⟨by rw [h.ag.len]; exact h.full w hS, ?_⟩
    have := h.knew k hk
    unfold agKnew at this
    rw [agGet_at hk'] at this
    unfold isTwo at hS
    simp at hS
    rcases hS with rfl | rfl
    · exact this.1
    · exact this.2)
  rw [agGet_at hk']
  have hp : g.mem[k].heard.Perm [a, b] := (List.perm_ext_iff_of_nodup (h.ag.inv.mem k hk').nodup (by simp [hab])).2 fun w => by
    rw [hall w]
    show agSaid g w = true ↔ _
    rw [h.said w]
    unfold isTwo
    simp
  exact hp.length_eq
theorem TwS.same {n : Nat} {a b : Int} {g : Ag} (h : TwS n a b n g) (hab : a ≠ b) {j k : Nat} (hj : j < n) (hk : k < n) : (agGet g j).heard = (agGet g k).heard := by
  have h1 := h.heard hab hj
  have h2 := h.heard hab hk
  rcases h.ag.alike hj hk with h3 | h3
  · exact h3.eq_of_length (by omega)
  · exact (h3.eq_of_length (by omega)).symm
end Go.Proofs.YtpgonkecicmanaaDoor
