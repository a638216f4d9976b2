/- The reference's Flush: Change: what is heard of one view, by itself; who has a word. -/
import Derived.Test.YtpgonkecicmanaaDoorMFlushPlays9
import Derived.Deep.DeepCutAuto
import Derived.Deep.CutBlock
namespace Go.Proofs.YtpgonkecicmanaaDoor
set_option linter.unusedVariables false
set_option linter.unusedSimpArgs false
open Go.RowKit Go.Maps
theorem starL_append {α : Type} (f : α → HProp) : ∀ (a b : List α), starL f (a ++ b) = starL f a * starL f b
  | [], b => by rw [List.nil_append]; show starL f b = emp * starL f b; rw [emp_star]
  | x :: a, b => by
    rw [List.cons_append]
    show f x * starL f (a ++ b) = f x * starL f a * starL f b
    rw [starL_append f a b, star_assoc]
structure NowI (rows : List (Value × List Int)) (N : Nat) (s : Fl) : Prop where
  len : rows.length = 5
  at_ : ∀ m : Nat, m < 5 → (rows[m]?).map (·.2) = some (flRow s ((N : Int), (m : Int)))
abbrev nowBlk (b : Nat) (rows : List (Value × List Int)) : HProp := blk b (.cells (rows.map (·.1)).toArray 39 (0, 0))
def NowP (b N : Nat) (s : Fl) : HProp := hex fun rows : List (Value × List Int) => pur (NowI rows N s) * (nowBlk b rows * starL rowP rows)
theorem Own.now_open {w0 w : World} {b N : Nat} {s : Fl} {R : HProp} (h : Own w0 (NowP b N s * R) w) : ∃ rows, NowI rows N s ∧ Own w0 (nowBlk b rows * (starL rowP rows * R)) w := by
  obtain ⟨rows, h⟩ := Own.ex h
  rw [star_assoc] at h
  obtain ⟨he, h⟩ := Own.pur_out h
  exact ⟨rows, he, h.perm (by ac_rfl)⟩
theorem Own.now_close {w0 w : World} {b N : Nat} {rows : List (Value × List Int)} {s : Fl} {R : HProp} (he : NowI rows N s) (h : Own w0 (nowBlk b rows * (starL rowP rows * R)) w) : Own w0 (NowP b N s * R) w := by
  refine Own.ex_mk rows ?_
  rw [star_assoc]
  exact Own.pur_mk he (h.perm (by ac_rfl))
theorem NowI.get {rows : List (Value × List Int)} {N : Nat} {s : Fl} (h : NowI rows N s) {m : Nat} (hm : m < 5) : ∃ hl : m < rows.length, rows[m].2 = flRow s ((N : Int), (m : Int)) := by
  have hl : m < rows.length := by rw [h.len]; exact hm
  have h1 := h.at_ m hm
  rw [List.getElem?_eq_getElem hl] at h1
  exact ⟨hl, Option.some.inj h1⟩
theorem NowI.hear {rows : List (Value × List Int)} {N : Nat} {s : Fl} (h : NowI rows N s) (hn : s.n = (N : Int)) {m : Nat} (hm : m < 5) (w : Int) (v : Value) : NowI (rows.set m (v, flRow s ((N : Int), (m : Int)) ++ [w])) N (flHear s (m : Int) w) where
  len := by rw [List.length_set]; exact h.len
  at_ := fun j hj => by
    rw [flRow_hear, hn, List.getElem?_set]
    by_cases e : m = j
    · subst e
      rw [if_pos rfl, if_pos (by rw [h.len]; omega), if_pos rfl]; rfl
    · rw [if_neg e, h.at_ j hj, if_neg]
      intro hc
      have h2 := congrArg Prod.snd hc
      simp only at h2
      omega
/-- A member's row of now: its slice, what it reads as. -/
theorem Own.now_row {w0 w : World} {b N : Nat} {s : Fl} {R : HProp} (hok : flOk s) {m : Nat} (hm : m < 5) (h : Own w0 (NowP b N s * R) w) :
    ∃ ad cap, w.cell? ⟨b, m, none⟩ = some (.slice ad (flRow s ((N : Int), (m : Int))).length cap) ∧ Ints w (.slice ad (flRow s ((N : Int), (m : Int))).length cap) (flRow s ((N : Int), (m : Int))) := by
  obtain ⟨rows, he, ho⟩ := h.now_open
  obtain ⟨hl, hr⟩ := he.get hm
  obtain ⟨ad, cap, h1, h2⟩ := Own.rf_take hl ho.second
  rw [hr] at h1 h2
  refine ⟨ad, cap, ?_, ?_⟩
  · rw [Own.cell ho, List.getElem?_toArray, List.getElem?_map, List.getElem?_eq_getElem hl, h1]; rfl
  · exact IntSl_reads (hok.2.2.2 _).2 _ h2
noncomputable def rcAny_code : Code := ((Tryd.f37.body.bind (findBlock 2)).getD .skip)
set_option maxRecDepth 1000000 in
set_option maxHeartbeats 4000000 in
theorem rcAny {Q : Exit → Act → World → Prop} {u1 u2 u3 u4 u5 u11 u12 u13 u14 u15 u16 u17 u18 u19 u20 u21 u22 u23 u24 u25 u26 u27 u28 u29 u30 u31 u32 u33 u34 u35 u36 u37 u38 u39 u40 u41 u42 u43 u44 u45 u46 u47 u48 u49 u50 u51 u52 u53 u54 u55 u56 u57 u58 u59 u60 u61 u62 u63 u64 u65 u66 u67 u68 u69 u70 u71 u72 u73 u74 u75 u76 u77 u78 u79 u80 u81 u82 u83 u84 u85 u86 u87 u88 u89 u90 u91 u92 u93 u94 u95 u96 u97 u98 u99 u100 u101 u102 u103 u104 u105 u106 u107 u108 u109 u110 u111 u112 u113 u114 u115 u116 u117 u118 u119 u120 u121 u122 u123 u124 u125 u126 u127 u128 u129 u130 u131 u132 u133 u134 u135 u136 u137 u138 u139 u140 u141 u142 u143 u144 u145 u146 u147 u148 u149 u150 u151 u152 u153 u154 u155 u156 u157 u158 u159 u160 u161 u162 u163 u164 u165 u166 : Value} {w1 : World} {w0 : World} (q b7 N i : Nat) (T : Fl) (F : HProp) (said stay : List Int) (hok : flOk T) (hTn : T.n = (N : Int)) (hmem : ∀ x ∈ stay, isMember x = true) (sad kad : Option Addr) (SL scap KL kcap : Nat) (hSL : SL = said.length) (hKL : KL = stay.length) (hK1 : KL ≤ kcap) (hK2 : kcap ≤ 9223372036854775807) (hS1 : SL ≤ scap) (hS2 : scap ≤ 9223372036854775807) (hi : i < SL) (x : Int) (hx : said[i]? = some x) (HFC : Hid (∀ w' S, Own w0 (S * F) w' → w'.cell? ⟨q, 33, none⟩ = some (.slice sad SL scap) ∧ Ints w' (.slice sad SL scap) said ∧ Ints w' (.slice kad KL kcap) stay)) (HO : Hid (Own w0 (NowP b7 N T * F) w1))
    (hK : ∀ (v9 v10 v11 v50 v51 v52 v53 v54 v55 v56 v57 v58 v59 v60 v61 v62 v63 v64 v65 v66 v67 v68 v69 v70 v71 v72 v73 : Value) (wx : World), (v9 = .bool (stay.any fun m => flHas T m x) ∧ Own w0 (NowP b7 N T * F) wx) → Q .normal ⟨List.toArray ((.pointer (some ⟨q, 0, none⟩)) :: u1 :: u2 :: u3 :: u4 :: u5 :: (.slice kad KL kcap) :: (.pointer (some ⟨b7, 0, none⟩)) :: (.int .i64 (i : Int)) :: v9 :: v10 :: v11 :: u12 :: u13 :: u14 :: u15 :: u16 :: u17 :: u18 :: u19 :: u20 :: u21 :: u22 :: u23 :: u24 :: u25 :: u26 :: u27 :: u28 :: u29 :: u30 :: u31 :: u32 :: u33 :: u34 :: u35 :: u36 :: u37 :: u38 :: u39 :: u40 :: u41 :: u42 :: u43 :: u44 :: u45 :: u46 :: u47 :: u48 :: u49 :: v50 :: v51 :: v52 :: v53 :: v54 :: v55 :: v56 :: v57 :: v58 :: v59 :: v60 :: v61 :: v62 :: v63 :: v64 :: v65 :: v66 :: v67 :: v68 :: v69 :: v70 :: v71 :: v72 :: v73 :: u74 :: u75 :: u76 :: u77 :: u78 :: u79 :: u80 :: u81 :: u82 :: u83 :: u84 :: u85 :: u86 :: u87 :: u88 :: u89 :: u90 :: u91 :: u92 :: u93 :: u94 :: u95 :: u96 :: u97 :: u98 :: u99 :: u100 :: u101 :: u102 :: u103 :: u104 :: u105 :: u106 :: u107 :: u108 :: u109 :: u110 :: u111 :: u112 :: u113 :: u114 :: u115 :: u116 :: u117 :: u118 :: u119 :: u120 :: u121 :: u122 :: u123 :: u124 :: u125 :: u126 :: u127 :: u128 :: u129 :: u130 :: u131 :: u132 :: u133 :: u134 :: u135 :: u136 :: u137 :: u138 :: u139 :: u140 :: u141 :: u142 :: u143 :: u144 :: u145 :: u146 :: u147 :: u148 :: u149 :: u150 :: u151 :: u152 :: u153 :: u154 :: u155 :: u156 :: u157 :: u158 :: u159 :: u160 :: u161 :: u162 :: u163 :: u164 :: u165 :: u166 :: []), []⟩ wx) :
    Code.wp Tryd.prog rcAny_code Q ⟨List.toArray ((.pointer (some ⟨q, 0, none⟩)) :: u1 :: u2 :: u3 :: u4 :: u5 :: (.slice kad KL kcap) :: (.pointer (some ⟨b7, 0, none⟩)) :: (.int .i64 (i : Int)) :: (.bool false) :: (.int .i64 0) :: u11 :: u12 :: u13 :: u14 :: u15 :: u16 :: u17 :: u18 :: u19 :: u20 :: u21 :: u22 :: u23 :: u24 :: u25 :: u26 :: u27 :: u28 :: u29 :: u30 :: u31 :: u32 :: u33 :: u34 :: u35 :: u36 :: u37 :: u38 :: u39 :: u40 :: u41 :: u42 :: u43 :: u44 :: u45 :: u46 :: u47 :: u48 :: u49 :: u50 :: u51 :: u52 :: u53 :: u54 :: u55 :: u56 :: u57 :: u58 :: u59 :: u60 :: u61 :: u62 :: u63 :: u64 :: u65 :: u66 :: u67 :: u68 :: u69 :: u70 :: u71 :: u72 :: u73 :: u74 :: u75 :: u76 :: u77 :: u78 :: u79 :: u80 :: u81 :: u82 :: u83 :: u84 :: u85 :: u86 :: u87 :: u88 :: u89 :: u90 :: u91 :: u92 :: u93 :: u94 :: u95 :: u96 :: u97 :: u98 :: u99 :: u100 :: u101 :: u102 :: u103 :: u104 :: u105 :: u106 :: u107 :: u108 :: u109 :: u110 :: u111 :: u112 :: u113 :: u114 :: u115 :: u116 :: u117 :: u118 :: u119 :: u120 :: u121 :: u122 :: u123 :: u124 :: u125 :: u126 :: u127 :: u128 :: u129 :: u130 :: u131 :: u132 :: u133 :: u134 :: u135 :: u136 :: u137 :: u138 :: u139 :: u140 :: u141 :: u142 :: u143 :: u144 :: u145 :: u146 :: u147 :: u148 :: u149 :: u150 :: u151 :: u152 :: u153 :: u154 :: u155 :: u156 :: u157 :: u158 :: u159 :: u160 :: u161 :: u162 :: u163 :: u164 :: u165 :: u166 :: []), []⟩ w1 := by
  conv => arg 2; whnf
  have HK := Lib.hid hK
  clear hK
  have hil : i < said.length := by rw [← hSL]; exact hi
  have hxi : said[i] = x := by rw [List.getElem?_eq_getElem hil] at hx; exact Option.some.inj hx
  have i0 : (0 : Int) ≤ (i : Int) := by omega
  have iS : (i : Int) < (SL : Int) := by omega
  have hBS : Hid (stay.any (fun m => flHas T m x) = (stay.take KL).any fun m => flHas T m x) := Lib.hid (by rw [hKL, List.take_length])
  have HOK := Lib.hid hok; have HTN := Lib.hid hTn; have HMEM := Lib.hid hmem; have HSL := Lib.hid hSL; have HKL := Lib.hid hKL; have HX := Lib.hid hx; have HXI := Lib.hid hxi
  clear hok hTn hmem hSL hKL hx hxi
  go_wp2_with fail
  go_loopw [9, 10] (fun bv kv wr => ∃ (k : Nat) (B : Bool), k ≤ KL ∧ bv = .bool B ∧ kv = .int .i64 (k : Int) ∧ Hid (B = (stay.take k).any fun m => flHas T m x) ∧ Hid (Own w0 (NowP b7 N T * F) wr)) (fun _ kv _ => KL - (intOf kv).toNat)
  case atStart => exact ⟨0, false, Nat.zero_le _, rfl, rfl, Lib.hid rfl, HO⟩
  case round =>
    clear HO
    obtain ⟨k, B, hk, rfl, rfl, HB, HP⟩ := hrel
    by_cases hlt : k < KL
    rotate_left
    · have hkK : k = KL := by omega
      subst hkK
      have t1 : decide ((k : Int) < (k : Int)) = false := decide_eq_false (by omega)
      go_wp2_with fail
      apply HK.out
      exact ⟨by rw [HB.out, hBS.out], HP.out⟩
    have t1 : decide ((k : Int) < (KL : Int)) = true := decide_eq_true (by omega)
    obtain ⟨c33, hsd, hst⟩ := HFC.out _ _ HP.out
    have hkl : k < stay.length := by rw [← HKL.out]; exact hlt
    obtain ⟨aa, rfl, hca⟩ := hst.at k hkl
    obtain ⟨ab, rfl, hcb⟩ := hsd.at i hil
    have hmm := HMEM.out stay[k] (List.getElem_mem hkl)
    obtain ⟨m, hm, hm5⟩ := member_nat hmm
    rw [hm] at hca
    rw [HXI.out] at hcb
    obtain ⟨rad, rcap, e5, hrd⟩ := HP.out.now_row HOK.out hm5
    obtain ⟨X, hX⟩ : ∃ X, X = flRow T ((N : Int), (m : Int)) := ⟨_, rfl⟩
    rw [← hX] at e5 hrd
    obtain ⟨L, hL⟩ : ∃ L, L = X.length := ⟨_, rfl⟩
    rw [← hL] at e5
    rw [← hL] at hrd
    have HIN := Lib.hid (refIn_any (.slice rad L rcap) X x wr.drew (hrd.heap rfl))
    obtain ⟨D, hD⟩ : ∃ D, D = decide (x ∈ X) := ⟨_, rfl⟩
    rw [← hD] at HIN
    have hnx : ((stay.take (k + 1)).any fun m => flHas T m x) = (B || D) := by
      rw [List.take_succ_eq_append_getElem hkl, List.any_append, ← HB.out]
      congr 1
      rw [hm, hD, hX]
      show (flHas T (m : Int) x || false) = _
      unfold flHas
      rw [HTN.out, Bool.or_false]
    have m0 : (0 : Int) ≤ (m : Int) := by omega
    have m5 : (m : Int) < 5 := by omega
    have k0 : (0 : Int) ≤ (k : Int) := by omega
    have kK : (k : Int) < (KL : Int) := by omega
    clear hrd hst hsd
    have HMM := Lib.hid hmm; have HM := Lib.hid hm; have HX := Lib.hid hX; have HL := Lib.hid hL; have HD := Lib.hid hD; have HNX := Lib.hid hnx
    clear hmm hm hX hL hD hnx
    go_upto_region 13 with fail
    refine wp_region_tail 13 (by kernel_rfl) (by kernel_rfl) ?_
    simp only [List.take_succ_cons, List.take_zero, List.drop_succ_cons, List.drop_zero]
    repeat still_step
    refine wpStill_nil ?_
    go_wp2_with fail
    refine HIN.out.mono ?_
    rintro e w' ⟨rfl, rfl⟩
    cases B
    · go_wp2_with fail
      go_round
      case rel => exact ⟨k + 1, D, by omega, rfl, by go_num, Lib.hid (by rw [HNX.out]; rfl), Lib.hid HP.out.drew⟩
      case measure => simp [intOf]; omega
    · go_wp2_with fail
      go_round
      case rel => exact ⟨k + 1, true, by omega, rfl, by go_num, Lib.hid (by rw [HNX.out]; rfl), Lib.hid HP.out.drew⟩
      case measure => simp [intOf]; omega
end Go.Proofs.YtpgonkecicmanaaDoor
/- The reference's Flush: Change: a word that somebody has is given to all. -/
namespace Go.Proofs.YtpgonkecicmanaaDoor
set_option linter.unusedVariables false
set_option linter.unusedSimpArgs false
open Go.RowKit Go.Maps
def giveIf (A : Bool) (T : Fl) (stay : List Int) (x : Int) : Fl := if A = true then flGiveAll T stay x else T
theorem now_put {w0 w : World} {b : Nat} {rows : List (Value × List Int)} {m : Nat} {F : HProp} {v : Value} {l : List Int} (hl : m < rows.length) (h : Own w0 (nowBlk b rows * (IntSl v l * (starL rowP (rows.eraseIdx m) * F))) w) :
    Own w0 (nowBlk b (rows.set m (v, l)) * (starL rowP (rows.set m (v, l)) * F)) (w.setCell ⟨b, m, none⟩ v) := by
  have h1 := Own.setCell (i := m) (v := v) h
  rw [List.setIfInBounds_toArray] at h1
  have e : (rows.map (·.1)).set m v = (rows.set m (v, l)).map (·.1) := by rw [List.map_set]
  rw [e] at h1
  have h2 : Own w0 (nowBlk b (rows.set m (v, l)) * _) (w.setCell ⟨b, m, none⟩ v) := h1
  exact (rf_put hl (h2.perm (show _ = IntSl v l * (starL rowP (rows.eraseIdx m) * (nowBlk b (rows.set m (v, l)) * F)) by ac_rfl))).perm (by ac_rfl)
noncomputable def rcGive_code : Code := ((Tryd.f37.body.bind (findBlock 4)).getD .skip)
set_option maxRecDepth 1000000 in
set_option maxHeartbeats 4000000 in
theorem rcGive {Q : Exit → Act → World → Prop} {u1 u2 u3 u4 u5 u10 u11 u13 u14 u15 u16 u17 u18 u19 u20 u21 u22 u23 u24 u25 u26 u27 u28 u29 u30 u31 u32 u33 u34 u35 u36 u37 u38 u39 u40 u41 u42 u43 u44 u45 u46 u47 u48 u49 u50 u51 u52 u53 u54 u55 u56 u57 u58 u59 u60 u61 u62 u63 u64 u65 u66 u67 u68 u69 u70 u71 u72 u73 u74 u75 u76 u77 u78 u79 u80 u81 u82 u83 u84 u85 u86 u87 u88 u89 u90 u91 u92 u93 u94 u95 u96 u97 u98 u99 u100 u101 u102 u103 u104 u105 u106 u107 u108 u109 u110 u111 u112 u113 u114 u115 u116 u117 u118 u119 u120 u121 u122 u123 u124 u125 u126 u127 u128 u129 u130 u131 u132 u133 u134 u135 u136 u137 u138 u139 u140 u141 u142 u143 u144 u145 u146 u147 u148 u149 u150 u151 u152 u153 u154 u155 u156 u157 u158 u159 u160 u161 u162 u163 u164 u165 u166 : Value} {w1 : World} {w0 : World} (q b7 N i : Nat) (T : Fl) (F : HProp) (said stay : List Int) (hgd : flGood T) (hTn : T.n = (N : Int)) (hmem : ∀ x ∈ stay, isMember x = true) (sad kad : Option Addr) (SL scap KL kcap : Nat) (hSL : SL = said.length) (hKL : KL = stay.length) (hK1 : KL ≤ kcap) (hK2 : kcap ≤ 9223372036854775807) (hS1 : SL ≤ scap) (hS2 : scap ≤ 9223372036854775807) (hi : i < SL) (x : Int) (hx : said[i]? = some x) (hw : isWord x = true) (A : Bool) (HFC : Hid (∀ w' S, Own w0 (S * F) w' → w'.cell? ⟨q, 33, none⟩ = some (.slice sad SL scap) ∧ Ints w' (.slice sad SL scap) said ∧ Ints w' (.slice kad KL kcap) stay)) (HO : Hid (Own w0 (NowP b7 N T * F) w1))
    (hK : ∀ (v12 v13 v74 v75 v76 v77 v78 v79 v80 v81 v82 v83 v84 v85 v86 v87 v88 v89 v90 v91 v92 v93 v94 v95 v96 v97 v98 v99 v100 v101 v102 v103 v104 v105 v106 v107 v108 v109 v110 v111 v112 v113 v114 v115 v116 v117 v118 : Value) (wx : World), (Own w0 (NowP b7 N (giveIf A T stay x) * F) wx) → Q .normal ⟨List.toArray ((.pointer (some ⟨q, 0, none⟩)) :: u1 :: u2 :: u3 :: u4 :: u5 :: (.slice kad KL kcap) :: (.pointer (some ⟨b7, 0, none⟩)) :: (.int .i64 (i : Int)) :: (.bool A) :: u10 :: u11 :: v12 :: v13 :: u14 :: u15 :: u16 :: u17 :: u18 :: u19 :: u20 :: u21 :: u22 :: u23 :: u24 :: u25 :: u26 :: u27 :: u28 :: u29 :: u30 :: u31 :: u32 :: u33 :: u34 :: u35 :: u36 :: u37 :: u38 :: u39 :: u40 :: u41 :: u42 :: u43 :: u44 :: u45 :: u46 :: u47 :: u48 :: u49 :: u50 :: u51 :: u52 :: u53 :: u54 :: u55 :: u56 :: u57 :: u58 :: u59 :: u60 :: u61 :: u62 :: u63 :: u64 :: u65 :: u66 :: u67 :: u68 :: u69 :: u70 :: u71 :: u72 :: u73 :: v74 :: v75 :: v76 :: v77 :: v78 :: v79 :: v80 :: v81 :: v82 :: v83 :: v84 :: v85 :: v86 :: v87 :: v88 :: v89 :: v90 :: v91 :: v92 :: v93 :: v94 :: v95 :: v96 :: v97 :: v98 :: v99 :: v100 :: v101 :: v102 :: v103 :: v104 :: v105 :: v106 :: v107 :: v108 :: v109 :: v110 :: v111 :: v112 :: v113 :: v114 :: v115 :: v116 :: v117 :: v118 :: u119 :: u120 :: u121 :: u122 :: u123 :: u124 :: u125 :: u126 :: u127 :: u128 :: u129 :: u130 :: u131 :: u132 :: u133 :: u134 :: u135 :: u136 :: u137 :: u138 :: u139 :: u140 :: u141 :: u142 :: u143 :: u144 :: u145 :: u146 :: u147 :: u148 :: u149 :: u150 :: u151 :: u152 :: u153 :: u154 :: u155 :: u156 :: u157 :: u158 :: u159 :: u160 :: u161 :: u162 :: u163 :: u164 :: u165 :: u166 :: []), []⟩ wx) :
    Code.wp Tryd.prog rcGive_code Q ⟨List.toArray ((.pointer (some ⟨q, 0, none⟩)) :: u1 :: u2 :: u3 :: u4 :: u5 :: (.slice kad KL kcap) :: (.pointer (some ⟨b7, 0, none⟩)) :: (.int .i64 (i : Int)) :: (.bool A) :: u10 :: u11 :: (.int .i64 0) :: u13 :: u14 :: u15 :: u16 :: u17 :: u18 :: u19 :: u20 :: u21 :: u22 :: u23 :: u24 :: u25 :: u26 :: u27 :: u28 :: u29 :: u30 :: u31 :: u32 :: u33 :: u34 :: u35 :: u36 :: u37 :: u38 :: u39 :: u40 :: u41 :: u42 :: u43 :: u44 :: u45 :: u46 :: u47 :: u48 :: u49 :: u50 :: u51 :: u52 :: u53 :: u54 :: u55 :: u56 :: u57 :: u58 :: u59 :: u60 :: u61 :: u62 :: u63 :: u64 :: u65 :: u66 :: u67 :: u68 :: u69 :: u70 :: u71 :: u72 :: u73 :: u74 :: u75 :: u76 :: u77 :: u78 :: u79 :: u80 :: u81 :: u82 :: u83 :: u84 :: u85 :: u86 :: u87 :: u88 :: u89 :: u90 :: u91 :: u92 :: u93 :: u94 :: u95 :: u96 :: u97 :: u98 :: u99 :: u100 :: u101 :: u102 :: u103 :: u104 :: u105 :: u106 :: u107 :: u108 :: u109 :: u110 :: u111 :: u112 :: u113 :: u114 :: u115 :: u116 :: u117 :: u118 :: u119 :: u120 :: u121 :: u122 :: u123 :: u124 :: u125 :: u126 :: u127 :: u128 :: u129 :: u130 :: u131 :: u132 :: u133 :: u134 :: u135 :: u136 :: u137 :: u138 :: u139 :: u140 :: u141 :: u142 :: u143 :: u144 :: u145 :: u146 :: u147 :: u148 :: u149 :: u150 :: u151 :: u152 :: u153 :: u154 :: u155 :: u156 :: u157 :: u158 :: u159 :: u160 :: u161 :: u162 :: u163 :: u164 :: u165 :: u166 :: []), []⟩ w1 := by
  conv => arg 2; whnf
  have HK := Lib.hid hK
  clear hK
  have hil : i < said.length := by rw [← hSL]; exact hi
  have hxi : said[i] = x := by rw [List.getElem?_eq_getElem hil] at hx; exact Option.some.inj hx
  have i0 : (0 : Int) ≤ (i : Int) := by omega
  have iS : (i : Int) < (SL : Int) := by omega
  have HGK : Hid (∀ k, flGood (flGiveAll T (stay.take k) x) ∧ (flGiveAll T (stay.take k) x).n = (N : Int)) := Lib.hid (fun k => ⟨flGood_all hw _ hgd, by rw [(flLike_all x (stay.take k) T).1, hTn]⟩)
  have HALL : Hid (flGiveAll T (stay.take KL) x = flGiveAll T stay x) := Lib.hid (by rw [hKL, List.take_length])
  have HGD := Lib.hid hgd; have HTN := Lib.hid hTn; have HMEM := Lib.hid hmem; have HSL := Lib.hid hSL; have HKL := Lib.hid hKL; have HX := Lib.hid hx; have HXI := Lib.hid hxi; have HW := Lib.hid hw
  clear hgd hTn hmem hSL hKL hx hxi hw
  cases A
  · have HO2 : Hid (Own w0 (NowP b7 N (giveIf false T stay x) * F) w1) := HO
    go_wp2_with fail
    go_loopw [12] (fun kv wr => kv = .int .i64 0 ∧ Hid (Own w0 (NowP b7 N (giveIf false T stay x) * F) wr)) (fun _ _ => 0)
    case atStart => exact ⟨rfl, HO2⟩
    case round =>
      clear HO HO2
      obtain ⟨rfl, HP⟩ := hrel
      obtain ⟨D, hD⟩ : ∃ D, decide ((0 : Int) < (KL : Int)) = D := ⟨_, rfl⟩
      cases D
      · go_wp2_with fail
        all_goals (apply HK.out; exact HP.out)
      · go_wp2_with fail
        all_goals (apply HK.out; exact HP.out)
  go_wp2_with fail
  go_loopw [12] (fun kv wr => ∃ k : Nat, k ≤ KL ∧ kv = .int .i64 (k : Int) ∧ Hid (Own w0 (NowP b7 N (flGiveAll T (stay.take k) x) * F) wr)) (fun kv _ => KL - (intOf kv).toNat)
  case atStart => exact ⟨0, Nat.zero_le _, rfl, Lib.hid HO.out⟩
  case round =>
    clear HO
    obtain ⟨k, hk, rfl, HP⟩ := hrel
    by_cases hlt : k < KL
    rotate_left
    · have hkK : k = KL := by omega
      subst hkK
      have t1 : decide ((k : Int) < (k : Int)) = false := decide_eq_false (by omega)
      have HF : Hid (Own w0 (NowP b7 N (giveIf true T stay x) * F) wr) := Lib.hid (by
        have h1 := HP.out
        rw [HALL.out] at h1
        exact h1)
      go_wp2_with fail
      apply HK.out
      exact HF.out
    have t1 : decide ((k : Int) < (KL : Int)) = true := decide_eq_true (by omega)
    obtain ⟨U, hU⟩ : ∃ U, U = flGiveAll T (stay.take k) x := ⟨_, rfl⟩
    obtain ⟨hUg, hUn⟩ := HGK.out k
    rw [← hU] at HP hUg hUn
    have hUok := hUg.ok
    obtain ⟨c33, hsd, hst⟩ := HFC.out _ _ HP.out
    have hkl : k < stay.length := by rw [← HKL.out]; exact hlt
    obtain ⟨aa, rfl, hca⟩ := hst.at k hkl
    obtain ⟨ab, rfl, hcb⟩ := hsd.at i hil
    have hmm := HMEM.out stay[k] (List.getElem_mem hkl)
    obtain ⟨m, hm, hm5⟩ := member_nat hmm
    rw [hm] at hca
    rw [HXI.out] at hcb
    obtain ⟨rows, he, ho⟩ := HP.out.now_open
    obtain ⟨hl, hr⟩ := he.get hm5
    obtain ⟨rad, rcap, h1, h2⟩ := Own.rf_take hl ho.second
    obtain ⟨X, hX⟩ : ∃ X, X = flRow U ((N : Int), (m : Int)) := ⟨_, rfl⟩
    rw [hr, ← hX] at h1 h2
    have hXl : X.length ≤ 1000 := by rw [hX]; exact (hUok.2.2.2 _).1
    have hXI : ∀ y ∈ X, I64 y := by rw [hX]; exact (hUok.2.2.2 _).2
    obtain ⟨L, hL⟩ : ∃ L, L = X.length := ⟨_, rfl⟩
    have hrd := IntSl_reads hXI _ h2
    rw [← hL] at h1 h2 hrd hXl
    have H2 : Hid (Own w0 (Sl 3 1 (.slice rad L rcap) L (X.map (Value.int .i64)) * (nowBlk b7 rows * (starL rowP (rows.eraseIdx m) * F))) wr.drew) := Lib.hid (by
      unfold IntSl at h2
      rw [← hL] at h2
      exact h2.drew.perm (by ac_rfl))
    have hcell : (rows.map (·.1)).toArray[m]? = some (.slice rad L rcap) := by
      rw [List.getElem?_toArray, List.getElem?_map, List.getElem?_eq_getElem hl, h1]; rfl
    have e5 : wr.cell? ⟨b7, m, none⟩ = some (.slice rad L rcap) := (Own.cell ho m).trans hcell
    have HIN := Lib.hid (refIn_any (.slice rad L rcap) X x wr.drew (hrd.heap rfl))
    obtain ⟨D, hD⟩ : ∃ D, D = decide (x ∈ X) := ⟨_, rfl⟩
    rw [← hD] at HIN
    have hnx : flGiveAll T (stay.take (k + 1)) x = if D = true then U else flHear U (m : Int) x := by
      rw [flGiveAll_next hkl, ← hU, hm]
      unfold flStep
      have : flHas U (m : Int) x = D := by unfold flHas; rw [hUn, ← hX, hD]
      rw [this]
    have m0 : (0 : Int) ≤ (m : Int) := by omega
    have m5 : (m : Int) < 5 := by omega
    have k0 : (0 : Int) ≤ (k : Int) := by omega
    have kK : (k : Int) < (KL : Int) := by omega
    have HLI := Lib.hid hl
    have HIS : Hid (∀ v, NowI (rows.set m (v, X ++ [x])) N (flHear U (m : Int) x)) := Lib.hid (fun v => by rw [hX]; exact he.hear hUn hm5 x v)
    have HFX : Hid (∀ w' S, Own w0 (S * (nowBlk b7 rows * (starL rowP (rows.eraseIdx m) * F))) w' → w'.cell? ⟨q, 33, none⟩ = some (.slice (some ab) SL scap) ∧ w'.cell? (ab.add i) = some (.int .i64 x) ∧ w'.cell? (aa.add k) = some (.int .i64 (m : Int)) ∧ w'.cell? ⟨b7, m, none⟩ = some (.slice rad L rcap)) := Lib.hid (fun w' S h => by
      obtain ⟨g33, gsd, gst⟩ := HFC.out w' (S * (nowBlk b7 rows * starL rowP (rows.eraseIdx m))) (h.perm (by ac_rfl))
      obtain ⟨_, ea, g1⟩ := gst.at k hkl
      obtain ⟨_, eb, g2⟩ := gsd.at i hil
      injection ea with ea
      injection eb with eb
      subst ea; subst eb
      exact ⟨g33, by rw [g2, HXI.out], by rw [g1, hm], (Own.cell h.second m).trans hcell⟩)
    have HCL := Lib.hid hcell
    clear hrd hst hsd ho h2 hcell
    have HMM := Lib.hid hmm; have HE := Lib.hid he; have HR := Lib.hid hr; have H1 := Lib.hid h1; have HXI := Lib.hid hXI; have HD := Lib.hid hD; have HNX := Lib.hid hnx; have HUG := Lib.hid hUg; have HUN := Lib.hid hUn; have HUOK := Lib.hid hUok; have HU := Lib.hid hU; have HX := Lib.hid hX
    clear hmm he hr h1 hXI hD hnx hUg hUn hUok hU hX
    have HMM2 := Lib.hid hm
    have HLL := Lib.hid hL
    clear hm hL
    go_upto_region 18 with fail
    refine wp_region_tail 13 (by kernel_rfl) (by kernel_rfl) ?_
    simp only [List.take_succ_cons, List.take_zero, List.drop_succ_cons, List.drop_zero]
    repeat still_step
    refine wpStill_nil ?_
    go_wp2_with fail
    refine HIN.out.mono ?_
    rintro e w' ⟨rfl, rfl⟩
    cases D
    rotate_left
    · go_wp2_with fail
      go_round
      case rel => exact ⟨k + 1, by omega, by go_num, Lib.hid (by rw [HNX.out]; simp only [if_true]; exact HP.out.drew)⟩
      case measure => simp [intOf]; omega
    clear c33 hca hcb e5
    obtain ⟨w3, hw3⟩ : ∃ w', w' = wr.drew := ⟨_, rfl⟩
    rw [← hw3] at H2
    obtain ⟨c33, hcb, hca, e5⟩ := HFX.out _ _ H2.out
    go_upto_region 20 with fail
    rw [← hw3]
    clear hw3
    refine wp_region_planH 20 [] [(true, 0), (true, 1), (true, 2), (true, 3), (true, 4), (true, 5), (true, 6), (true, 7), (true, 8), (true, 9), (true, 10), (true, 11), (true, 12), (true, 13), (true, 14), (true, 15), (true, 16), (false, 17), (false, 18), (true, 19)] [20] (fun wS => wS.cell? ⟨q, 33, none⟩ = some (.slice (some ab) SL scap) ∧ wS.cell? (ab.add i) = some (.int .i64 x) ∧ wS.cell? (aa.add k) = some (.int .i64 (m : Int)) ∧ wS.cell? ⟨b7, m, none⟩ = some (.slice rad L rcap)) (by kernel_rfl) (by kernel_rfl) (⟨c33, hcb, hca, e5⟩) ?_
    simp only [pickH, pick, List.getElem?_cons_succ, List.getElem?_cons_zero, Option.toList, Option.map_some, List.cons_append, List.nil_append]
    repeat (refine wpPure_step ?_ rfl ?_ ?_; rotate_left; (focus (intro _; first | with_reducible rfl | (go_simp; done) | (go_simp; with_reducible rfl) | rfl)); go_simp)
    refine wpPure_nil ?_
    repeat (refine wpMix_read ?_ rfl ?_ ?_; rotate_left; (focus (intro _ hS; obtain ⟨s1, s2, s3, s4⟩ := hS; first | with_reducible rfl | (go_simp; done) | (go_simp; with_reducible rfl) | rfl)); go_simp)
    refine wpMix_write (fun K hK => ?_)
    go_simp
    obtain ⟨b3, hb_b3⟩ : ∃ zz_, zz_ = (w3).heap.size := ⟨_, rfl⟩
    obtain ⟨w8, hw_w8⟩ : ∃ zz_, zz_ = (w3).alloc (.cells #[.int .i64 x] 3 (0, 0)) := ⟨_, rfl⟩
    have h_HB3 := (H2.out).alloc (.cells #[.int .i64 x] 3 (0, 0))
    rw [← hb_b3, ← hw_w8] at h_HB3
    have HB3 := Lib.hid h_HB3
    clear h_HB3
    rw [← hb_b3, ← hw_w8]
    clear hb_b3 hw_w8
    have HB5 : Hid (Own w0 (Sl 3 1 (.slice rad L rcap) L (X.map (Value.int .i64)) * ((blk b3 (.cells #[.int .i64 x] 3 (0, 0))) * (nowBlk b7 rows * (starL rowP (rows.eraseIdx m) * F)))) w8.drew) := Lib.hid (HB3.out.drew.perm (by ac_rfl))
    clear HB3 H2 c33 hcb hca e5
    obtain ⟨c33, hcb, hca, e5⟩ := HFX.out _ _ (HB5.out.perm (show _ = (Sl 3 1 (.slice rad L rcap) L (X.map (Value.int .i64)) * (blk b3 (.cells #[.int .i64 x] 3 (0, 0)))) * (nowBlk b7 rows * (starL rowP (rows.eraseIdx m) * F)) by ac_rfl))
    refine hK _ _ ⟨⟨c33, hcb, hca, e5⟩, ?_⟩
    clear hK K
    go_simp
    refine wpMix_write (fun K hK => ?_)
    have hsrc : Rd w8.drew (.slice (some ⟨b3, 0, none⟩) 1 1) 1 [.int .i64 x] := Rd_one (fun i u hi => by
      rw [Own.cell HB5.out.second]
      match i, hi with
      | 0, hi => exact hi) (Nat.le_refl _) (by unfold maxLen; omega)
    refine step_app rfl _ _ 38 rfl 3 1 8 _ int_info Tryd.underlying38 rfl (by decide) (by rfl) HB5.out (by rfl) (by rfl) hsrc (by intro u hu; simp at hu; subst hu; rfl) (by unfold maxLen; omega) (by omega) ?_
    intro v9 w9 ho9
    clear c33 hcb hca e5
    obtain ⟨c33, hcb, hca, e5⟩ := HFX.out _ _ (ho9.perm (show _ = (Sl 3 1 v9 (L + 1) (X.map (Value.int .i64) ++ [.int .i64 x]) * (blk b3 (.cells #[.int .i64 x] 3 (0, 0)))) * (nowBlk b7 rows * (starL rowP (rows.eraseIdx m) * F)) by ac_rfl))
    have ef : w9.frozen? ⟨b7, m, none⟩ = false := Own.free ho9.third m none
    obtain ⟨ad9, n9, cp9, hv9⟩ := rf_shape ho9
    have e1 : Sl 3 1 v9 (L + 1) (X.map (Value.int .i64) ++ [.int .i64 x]) = IntSl v9 (X ++ [x]) := by
      unfold IntSl
      rw [List.length_append, List.map_append, ← HLL.out]
      rfl
    rw [e1] at ho9
    have HFIN : Hid (Own w0 (NowP b7 N (flHear U (m : Int) x) * F) (w9.setCell ⟨b7, m, none⟩ v9)) := Lib.hid (Own.now_close (HIS.out v9) (now_put HLI.out (ho9.perm (show _ = (blk b3 (.cells #[.int .i64 x] 3 (0, 0))) * (nowBlk b7 rows * (IntSl v9 (X ++ [x]) * (starL rowP (rows.eraseIdx m) * F))) by ac_rfl)).drop))
    subst hv9
    clear hsrc ho9 HB5 e1
    refine hK _ _ ⟨⟨c33, hcb, hca, e5⟩, ?_⟩
    clear hK K
    go_simp
    repeat (refine wpMix_read ?_ rfl ?_ ?_; rotate_left; (focus (intro _ hS; obtain ⟨s1, s2, s3, s4⟩ := hS; first | with_reducible rfl | (go_simp; done) | (go_simp; with_reducible rfl) | rfl)); go_simp)
    refine wpMix_nil ?_
    go_wp2_with fail
    refine NoPanic.normal ?_
    go_wp2_with fail
    go_round
    case rel => exact ⟨k + 1, by omega, by go_num, Lib.hid (by rw [HNX.out]; simp only [Bool.false_eq_true, if_false]; exact HFIN.out)⟩
    case measure => simp [intOf]; omega
end Go.Proofs.YtpgonkecicmanaaDoor
/- The reference's Flush: Change: all words of the view, one after another. -/
namespace Go.Proofs.YtpgonkecicmanaaDoor
set_option linter.unusedVariables false
set_option linter.unusedSimpArgs false
open Go.RowKit Go.Maps
theorem flWord_give (stay : List Int) (s : Fl) (w : Int) : flWord stay s w = giveIf (stay.any fun m => flHas s m w) s stay w := rfl
noncomputable def rcWords_code : Code := ((Tryd.f37.body.bind (findBlock 0)).getD .skip)
set_option maxRecDepth 1000000 in
set_option maxHeartbeats 4000000 in
theorem rcWords {Q : Exit → Act → World → Prop} {u1 u2 u3 u4 u5 u9 u10 u11 u12 u13 u14 u15 u16 u17 u18 u19 u20 u21 u22 u23 u24 u25 u26 u27 u28 u29 u30 u31 u32 u33 u34 u35 u36 u37 u38 u39 u40 u41 u42 u43 u44 u45 u46 u47 u48 u49 u50 u51 u52 u53 u54 u55 u56 u57 u58 u59 u60 u61 u62 u63 u64 u65 u66 u67 u68 u69 u70 u71 u72 u73 u74 u75 u76 u77 u78 u79 u80 u81 u82 u83 u84 u85 u86 u87 u88 u89 u90 u91 u92 u93 u94 u95 u96 u97 u98 u99 u100 u101 u102 u103 u104 u105 u106 u107 u108 u109 u110 u111 u112 u113 u114 u115 u116 u117 u118 u119 u120 u121 u122 u123 u124 u125 u126 u127 u128 u129 u130 u131 u132 u133 u134 u135 u136 u137 u138 u139 u140 u141 u142 u143 u144 u145 u146 u147 u148 u149 u150 u151 u152 u153 u154 u155 u156 u157 u158 u159 u160 u161 u162 u163 u164 u165 u166 : Value} {w1 : World} {w0 : World} (q b7 N : Nat) (T : Fl) (F : HProp) (said stay : List Int) (hgd : flGood T) (hTn : T.n = (N : Int)) (hmem : ∀ x ∈ stay, isMember x = true) (hwd : ∀ x ∈ said, isWord x = true) (sad kad : Option Addr) (SL scap KL kcap : Nat) (hSL : SL = said.length) (hKL : KL = stay.length) (hK1 : KL ≤ kcap) (hK2 : kcap ≤ 9223372036854775807) (hS1 : SL ≤ scap) (hS2 : scap ≤ 9223372036854775807) (HFC : Hid (∀ w' S, Own w0 (S * F) w' → w'.cell? ⟨q, 33, none⟩ = some (.slice sad SL scap) ∧ Ints w' (.slice sad SL scap) said ∧ Ints w' (.slice kad KL kcap) stay)) (HO : Hid (Own w0 (NowP b7 N T * F) w1))
    (hK : ∀ (v8 v9 v10 v11 v12 v13 v41 v42 v43 v44 v45 v46 v47 v48 v49 v50 v51 v52 v53 v54 v55 v56 v57 v58 v59 v60 v61 v62 v63 v64 v65 v66 v67 v68 v69 v70 v71 v72 v73 v74 v75 v76 v77 v78 v79 v80 v81 v82 v83 v84 v85 v86 v87 v88 v89 v90 v91 v92 v93 v94 v95 v96 v97 v98 v99 v100 v101 v102 v103 v104 v105 v106 v107 v108 v109 v110 v111 v112 v113 v114 v115 v116 v117 v118 : Value) (wx : World), (Own w0 (NowP b7 N (flFlush T stay said) * F) wx) → Q .normal ⟨List.toArray ((.pointer (some ⟨q, 0, none⟩)) :: u1 :: u2 :: u3 :: u4 :: u5 :: (.slice kad KL kcap) :: (.pointer (some ⟨b7, 0, none⟩)) :: v8 :: v9 :: v10 :: v11 :: v12 :: v13 :: u14 :: u15 :: u16 :: u17 :: u18 :: u19 :: u20 :: u21 :: u22 :: u23 :: u24 :: u25 :: u26 :: u27 :: u28 :: u29 :: u30 :: u31 :: u32 :: u33 :: u34 :: u35 :: u36 :: u37 :: u38 :: u39 :: u40 :: v41 :: v42 :: v43 :: v44 :: v45 :: v46 :: v47 :: v48 :: v49 :: v50 :: v51 :: v52 :: v53 :: v54 :: v55 :: v56 :: v57 :: v58 :: v59 :: v60 :: v61 :: v62 :: v63 :: v64 :: v65 :: v66 :: v67 :: v68 :: v69 :: v70 :: v71 :: v72 :: v73 :: v74 :: v75 :: v76 :: v77 :: v78 :: v79 :: v80 :: v81 :: v82 :: v83 :: v84 :: v85 :: v86 :: v87 :: v88 :: v89 :: v90 :: v91 :: v92 :: v93 :: v94 :: v95 :: v96 :: v97 :: v98 :: v99 :: v100 :: v101 :: v102 :: v103 :: v104 :: v105 :: v106 :: v107 :: v108 :: v109 :: v110 :: v111 :: v112 :: v113 :: v114 :: v115 :: v116 :: v117 :: v118 :: u119 :: u120 :: u121 :: u122 :: u123 :: u124 :: u125 :: u126 :: u127 :: u128 :: u129 :: u130 :: u131 :: u132 :: u133 :: u134 :: u135 :: u136 :: u137 :: u138 :: u139 :: u140 :: u141 :: u142 :: u143 :: u144 :: u145 :: u146 :: u147 :: u148 :: u149 :: u150 :: u151 :: u152 :: u153 :: u154 :: u155 :: u156 :: u157 :: u158 :: u159 :: u160 :: u161 :: u162 :: u163 :: u164 :: u165 :: u166 :: []), []⟩ wx) :
    Code.wp Tryd.prog rcWords_code Q ⟨List.toArray ((.pointer (some ⟨q, 0, none⟩)) :: u1 :: u2 :: u3 :: u4 :: u5 :: (.slice kad KL kcap) :: (.pointer (some ⟨b7, 0, none⟩)) :: (.int .i64 0) :: u9 :: u10 :: u11 :: u12 :: u13 :: u14 :: u15 :: u16 :: u17 :: u18 :: u19 :: u20 :: u21 :: u22 :: u23 :: u24 :: u25 :: u26 :: u27 :: u28 :: u29 :: u30 :: u31 :: u32 :: u33 :: u34 :: u35 :: u36 :: u37 :: u38 :: u39 :: u40 :: u41 :: u42 :: u43 :: u44 :: u45 :: u46 :: u47 :: u48 :: u49 :: u50 :: u51 :: u52 :: u53 :: u54 :: u55 :: u56 :: u57 :: u58 :: u59 :: u60 :: u61 :: u62 :: u63 :: u64 :: u65 :: u66 :: u67 :: u68 :: u69 :: u70 :: u71 :: u72 :: u73 :: u74 :: u75 :: u76 :: u77 :: u78 :: u79 :: u80 :: u81 :: u82 :: u83 :: u84 :: u85 :: u86 :: u87 :: u88 :: u89 :: u90 :: u91 :: u92 :: u93 :: u94 :: u95 :: u96 :: u97 :: u98 :: u99 :: u100 :: u101 :: u102 :: u103 :: u104 :: u105 :: u106 :: u107 :: u108 :: u109 :: u110 :: u111 :: u112 :: u113 :: u114 :: u115 :: u116 :: u117 :: u118 :: u119 :: u120 :: u121 :: u122 :: u123 :: u124 :: u125 :: u126 :: u127 :: u128 :: u129 :: u130 :: u131 :: u132 :: u133 :: u134 :: u135 :: u136 :: u137 :: u138 :: u139 :: u140 :: u141 :: u142 :: u143 :: u144 :: u145 :: u146 :: u147 :: u148 :: u149 :: u150 :: u151 :: u152 :: u153 :: u154 :: u155 :: u156 :: u157 :: u158 :: u159 :: u160 :: u161 :: u162 :: u163 :: u164 :: u165 :: u166 :: []), []⟩ w1 := by
  conv => arg 2; whnf
  have HK := Lib.hid hK
  clear hK
  have HFF : Hid (flFlush T stay (said.take SL) = flFlush T stay said) := Lib.hid (by rw [hSL, List.take_length])
  have HGK : Hid (∀ k, flGood (flFlush T stay (said.take k)) ∧ (flFlush T stay (said.take k)).n = (N : Int)) := Lib.hid (fun k => ⟨flGood_flush _ (fun x hx => hwd x (List.mem_of_mem_take hx)) hgd, by rw [(flLike_flush stay (said.take k) T).1, hTn]⟩)
  have HGD := Lib.hid hgd; have HTN := Lib.hid hTn; have HMEM := Lib.hid hmem; have HWD := Lib.hid hwd; have HSL := Lib.hid hSL; have HKL := Lib.hid hKL
  clear hgd hTn hmem hwd hSL hKL
  go_wp2_with fail
  go_loopw [8] (fun iv wr => ∃ i : Nat, i ≤ SL ∧ iv = .int .i64 (i : Int) ∧ Hid (Own w0 (NowP b7 N (flFlush T stay (said.take i)) * F) wr)) (fun iv _ => SL - (intOf iv).toNat)
  case atStart => exact ⟨0, Nat.zero_le _, rfl, HO⟩
  case round =>
    clear HO
    obtain ⟨i, hi, rfl, HP⟩ := hrel
    obtain ⟨c33, _, _⟩ := HFC.out _ _ HP.out
    by_cases hlt : i < SL
    rotate_left
    · have hkK : i = SL := by omega
      subst hkK
      have t1 : decide ((i : Int) < (i : Int)) = false := decide_eq_false (by omega)
      go_wp2_with fail
      apply HK.out
      rw [HFF.out] at HP
      exact HP.out
    have t1 : decide ((i : Int) < (SL : Int)) = true := decide_eq_true (by omega)
    have hil : i < said.length := by rw [← HSL.out]; exact hlt
    obtain ⟨U, hU⟩ : ∃ U, U = flFlush T stay (said.take i) := ⟨_, rfl⟩
    obtain ⟨hUg, hUn⟩ := HGK.out i
    rw [← hU] at HP hUg hUn
    obtain ⟨x, hx⟩ : ∃ x, x = said[i] := ⟨_, rfl⟩
    have hxs : said[i]? = some x := by rw [List.getElem?_eq_getElem hil, hx]
    have hxw : isWord x = true := by rw [hx]; exact HWD.out _ (List.getElem_mem hil)
    have HNX : Hid (flFlush T stay (said.take (i + 1)) = giveIf (stay.any fun m => flHas U m x) U stay x) := Lib.hid (by
      rw [flFlush_next hil, ← hU, ← hx, flWord_give])
    have HU := Lib.hid hU; have HUG := Lib.hid hUg; have HUN := Lib.hid hUn; have HX := Lib.hid hx; have HXS := Lib.hid hxs; have HXW := Lib.hid hxw
    clear hU hUg hUn hx hxs hxw
    go_upto_block 2 with fail
    refine rcAny q b7 N i U F said stay HUG.out.ok HUN.out HMEM.out sad kad SL scap KL kcap HSL.out HKL.out hK1 hK2 hS1 hS2 hlt x HXS.out HFC HP ?_
    intros
    rename_i wq hpp
    obtain ⟨h9, HQ⟩ : _ ∧ Hid _ := ⟨hpp.1, Lib.hid hpp.2⟩
    subst h9
    clear hpp
    obtain ⟨A, hA⟩ : ∃ A, A = stay.any fun m => flHas U m x := ⟨_, rfl⟩
    rw [← hA] at HNX ⊢
    have HA := Lib.hid hA
    clear hA
    go_upto_block 4 with fail
    refine rcGive q b7 N i U F said stay HUG.out HUN.out HMEM.out sad kad SL scap KL kcap HSL.out HKL.out hK1 hK2 hS1 hS2 hlt x HXS.out HXW.out A HFC HQ ?_
    intros
    rename_i wr2 hpp
    have HR : Hid (Own w0 (NowP b7 N (flFlush T stay (said.take (i + 1))) * F) wr2) := Lib.hid (by rw [HNX.out]; exact hpp)
    clear hpp
    go_wp2_with fail
    go_round
    case rel => exact ⟨i + 1, by omega, by go_num, HR⟩
    case measure => simp [intOf]; omega
end Go.Proofs.YtpgonkecicmanaaDoor
/- The reference's Flush: Change. -/
namespace Go.Proofs.YtpgonkecicmanaaDoor
set_option linter.unusedVariables false
set_option linter.unusedSimpArgs false
open Go.RowKit Go.Maps
theorem fl_refNext {s : Fl} {B : List Int} (hg : flInv s) (hsee : memErr s.has = 0) : flNextErr s B = refNextErr s.n s.has B := by
  refine nextErr_ref ?_
  unfold viewErr
  rw [if_neg (by have := hg.1.1; simp [isCount]; omega)]
  exact hsee
set_option maxRecDepth 100000 in
set_option maxHeartbeats 4000000 in
theorem rfChange_no {w0 w : World} {R : HProp} (q : Nat) (s : Fl) (v : Value) (B : List Int) (hg : flInv s) (hsee : memErr s.has = 0) (hB : ∀ R, Reads w0 R v B) (hne : flNextErr s B ≠ 0) (h : Own w0 (RfP q s * R) w) :
    Calls Tryd.prog 37 #[.pointer (some ⟨q, 0, none⟩), v] w fun e w' => e = .returned (.int .i64 (flNextErr s B : Nat)) ∧ Own w0 (RfP q (flChange s B) * R) w' := by
  have hok : flOk s := hg.1.ok
  have hE := fl_refNext (B := B) hg hsee
  obtain ⟨E, hEE⟩ : ∃ E, E = flNextErr s B := ⟨_, rfl⟩
  rw [← hEE] at hE hne
  have hS : flChange s B = s := by unfold flChange; rw [if_neg (by rw [← hEE]; exact hne)]
  rw [hS, ← hEE]
  have t1 : (((E : Nat) : Int) != 0) = true := by rw [bne_iff_ne]; omega
  obtain ⟨bad, bcap, rfl, hbc1, hbc2⟩ := (hB _ _ h).shape
  obtain ⟨cs, hv, sv, dv, N, rows, he, ho⟩ := h.rf_open
  obtain ⟨hhd, hhc, hs⟩ := Own.int_shape ho.second
  rw [hs] at ho he
  have hN0 : s.n = (N : Int) := he.n
  obtain ⟨c0, c1, _⟩ := ho.rf_cells he.c
  have hA : Reads w0 (rfBlk q cs * (IntSl (.slice hhd s.has.length hhc) s.has * (IntSl sv s.said * (dSl dv N rows * (starL rowP rows * R))))) (.slice hhd s.has.length hhc) s.has := fun w' h' => IntSl_reads hok.2.1.2 _ h'.second
  have hlen : s.has.length ≤ 100000 := by have := hok.2.1.1; omega
  have HNX := Lib.hid (refNext_any s.n _ _ s.has B ho hA (hB _) hlen)
  rw [← hE] at HNX
  have HCL : Hid (∀ w', Own w0 (rfBlk q cs * (IntSl (.slice hhd s.has.length hhc) s.has * (IntSl sv s.said * (dSl dv N rows * (starL rowP rows * R))))) w' → Own w0 (RfP q s * R) w') := Lib.hid (fun w' h' => Own.rf_close he h')
  obtain ⟨L, hL⟩ : ∃ L, L = s.has.length := ⟨_, rfl⟩
  rw [← hL] at c1 HNX hlen
  obtain ⟨n, hn⟩ : ∃ n, n = s.n := ⟨_, rfl⟩
  rw [← hn] at c0 HNX
  clear hA
  have H := Lib.hid h; have HO := Lib.hid ho; have HE := Lib.hid he; have HOK := Lib.hid hok; have HG := Lib.hid hg; have HSEE := Lib.hid hsee; have HB := Lib.hid hB; have HE := Lib.hid hE; have HEE := Lib.hid hEE; have HNE := Lib.hid hne; have HS := Lib.hid hS; have HS := Lib.hid hs; have HN0 := Lib.hid hN0; have HL := Lib.hid hL; have HN := Lib.hid hn
  clear h ho he hok hg hsee hB hE hEE hne hS hs hN0 hL hn
  go_enter Tryd.func37, Tryd.ntmps37
  go_wp2_with fail
  refine HNX.out.mono ?_
  rintro e w' ⟨rfl, h2⟩
  rw [HL.out] at h2
  have HF := Lib.hid (HCL.out _ h2)
  clear h2
  go_wp2
  go_ret
  exact ⟨rfl, HF.out⟩
end Go.Proofs.YtpgonkecicmanaaDoor
