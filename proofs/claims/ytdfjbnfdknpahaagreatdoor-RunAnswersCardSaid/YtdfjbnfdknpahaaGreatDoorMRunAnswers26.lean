/- The reference's Cause: what its loops hold; the inner loop of Take. -/
import Derived.Test.YtdfjbnfdknpahaaGreatDoorMRunAnswers25
import Derived.Test.YtdfjbnfdknpahaaGreatDoorMRunAnswers8
import Derived.Deep.DeepCutAuto
import Derived.Deep.CutBlock
namespace Go.Proofs.YtdfjbnfdknpahaaGreatDoor
set_option linter.unusedVariables false
set_option linter.unusedSimpArgs false
open Go.RowKit
theorem Rd.sd_front {w : World} {ad : Option Addr} {len cp n : Nat} {m : List SdR} (h : Rd w (.slice ad len cp) len (m.flatMap sdCells)) (hn : n ≤ len) : Rd w (.slice ad n cp) n ((m.take n).flatMap sdCells) := by
  obtain ⟨ad', cp', e, h1, h2, h3, h4⟩ := h
  injection e with e1 e2 e3
  subst e1; subst e3
  refine ⟨ad, cp, rfl, by omega, h2, h3, fun i u hi => h4 i u ?_⟩
  obtain ⟨r, hr⟩ : ∃ r, m.flatMap sdCells = (m.take n).flatMap sdCells ++ r := ⟨(m.drop n).flatMap sdCells, by rw [← List.flatMap_append, List.take_append_drop]⟩
  have hlt : i < ((m.take n).flatMap sdCells).length := (List.getElem?_eq_some_iff.1 hi).1
  rw [hr, List.getElem?_append_left hlt]; exact hi
theorem Rd.sd_back {w : World} {b off len cp n : Nat} {m : List SdR} (hm : m.length = len) (h : Rd w (.slice (some ⟨b, off, none⟩) len cp) len (m.flatMap sdCells)) (hn : n + 1 ≤ len) :
    Rd w (.slice (some (if cp = n + 1 then (⟨b, off, none⟩ : Addr) else ⟨b, off + (n + 1) * 3, none⟩)) (len - (n + 1)) (cp - (n + 1))) (len - (n + 1)) ((m.drop (n + 1)).flatMap sdCells) := by
  obtain ⟨ad', cp', e, h1, h2, h3, h4⟩ := h
  injection e with e1 e2 e3
  subst e1; subst e3
  refine ⟨_, _, rfl, by omega, by omega, (fun hc => by cases hc), fun i u hi => ?_⟩
  have hd : (m.drop (n + 1)).flatMap sdCells = (m.flatMap sdCells).drop ((n + 1) * 3) := by
    have h1 : m.flatMap sdCells = (m.take (n + 1)).flatMap sdCells ++ (m.drop (n + 1)).flatMap sdCells := by rw [← List.flatMap_append, List.take_append_drop]
    have h2 : ((m.take (n + 1)).flatMap sdCells).length = (n + 1) * 3 := by rw [sd_len, List.length_take, Nat.min_eq_left (by omega)]
    conv => rhs; rw [h1]
    rw [List.drop_left' h2]
  rw [hd, List.getElem?_drop] at hi
  obtain ⟨a, ha, hc⟩ := h4 _ _ hi
  cases ha
  by_cases hcn : cp = n + 1
  · have : (m.flatMap sdCells).length ≤ (n + 1) * 3 + i := by rw [sd_len]; omega
    rw [List.getElem?_eq_none this] at hi; cases hi
  · refine ⟨⟨b, off + (n + 1) * 3, none⟩, by rw [if_neg hcn], ?_⟩
    rw [Addr.add_lit] at hc ⊢
    rw [Nat.add_assoc]; exact hc
section
variable {w0 w : World} {p : Nat} {v : Value} {rows : List SdR} {me : Int} {clk : List Int} {R : HProp}
theorem Own.sds_one {Q : HProp} {P : SdR → Prop} (hP : ∀ r, P r → Reads w0 Q r.1 r.2.clk) (h : Own w0 Q w) (hr : ∀ r ∈ rows, P r) : ∀ u ∈ rows.flatMap sdCells, u.oneCell' = true := by
  intro u hu
  obtain ⟨r, hr', hp⟩ := List.mem_flatMap.1 hu
  obtain ⟨ad, cap, e, _⟩ := (hP r (hr r hr') w h).shape
  simp [sdCells] at hp
  rcases hp with rfl | rfl | rfl
  · rfl
  · rfl
  · rw [e]; rfl
end
def RcSt (w0 : World) (R : HProp) (p : Nat) (c : Ca) (s : Sd) (P : SdR → Prop) (rows : List SdR) (clk out : List Int) (vv ov : Value) (wr : World) : Prop :=
  vecErr clk = 0 ∧ (∀ r ∈ rows, sdErr r.2 = 0) ∧ (∀ r ∈ rows, P r) ∧ out.length + rows.length ≤ 41 ∧ CwInv c s out clk (rows.map (·.2)) ∧ Own w0 (IntSl ov out * (RcO p vv rows c.me clk * R)) wr
def RcIn (w0 : World) (R : HProp) (p : Nat) (c : Ca) (s : Sd) (P : SdR → Prop) (N : Nat) (ag : Bool) (j : Nat) (ov : Value) (wr : World) : Prop :=
  ∃ rows clk out vv, RcSt w0 R p c s P rows clk out vv ov wr ∧ (ag = true → rows.length + 1 = N) ∧ (ag = false → rows.length = N ∧ ∀ l (_ : l < j) (h : l < rows.length), caReady clk rows[l].2 = false)
def RcOut (w0 : World) (R : HProp) (p : Nat) (c : Ca) (s : Sd) (P : SdR → Prop) (N : Nat) (ag : Bool) (ov : Value) (wr : World) : Prop :=
  ∃ rows clk out vv, RcSt w0 R p c s P rows clk out vv ov wr ∧ (ag = true → rows.length + 1 = N) ∧ (ag = false → rows.length = N ∧ whereI (fun r : SdR => caReady clk r.2) rows = -1)
def RcOutB (w0 : World) (R : HProp) (p : Nat) (c : Ca) (s : Sd) (P : SdR → Prop) (N : Nat) (ov av : Value) (wr : World) : Prop := ∃ ag, av = .bool ag ∧ RcOut w0 R p c s P N ag ov wr
noncomputable def rcT_in_code : Code := ((Tryz.f43.body.bind (findBlock 4)).getD .skip)
set_option maxRecDepth 1000000 in
set_option maxHeartbeats 4000000 in
theorem rcT_in {Q : Exit → Act → World → Prop} {u1 u2 u3 u4 u5 u6 u7 u8 u12 u13 u14 u15 u16 u17 u18 u19 u20 u21 u22 u23 u24 u25 u26 u27 u28 u29 u30 u31 u32 u33 u34 u35 u36 u37 u38 u39 u40 u41 u42 u43 u44 u45 u46 u47 u48 u49 u50 u51 u52 u53 u54 u55 u56 u57 u58 u59 u60 u61 u62 u63 u64 u65 u66 u67 u68 u69 u70 u71 u72 u73 u74 u75 u76 u77 u78 u79 u80 u81 u82 u83 u84 u85 u86 u87 u88 u89 u90 u91 u92 u93 u94 u95 u96 u97 u98 u99 u100 u101 u102 u103 u104 u105 u106 u107 u108 u109 u110 u111 u112 u113 u114 u115 u116 u117 u118 u119 u120 u121 u122 u123 u124 u125 u126 u127 u128 u129 u130 u131 u132 u133 u134 u135 u136 u137 u138 u139 u140 u141 u142 u143 u144 u145 u146 u147 u148 u149 u150 u151 u152 u153 u154 u155 u156 u157 u158 u159 u160 u161 u162 u163 u164 u165 u166 u167 u168 u169 u170 u171 u172 u173 u174 u175 u176 u177 u178 u179 u180 u181 u182 u183 u184 u185 u186 u187 u188 u189 u190 u191 u192 u193 u194 u195 u196 u197 u198 u199 u200 u201 u202 u203 u204 u205 u206 u207 u208 u209 u210 u211 u212 u213 u214 u215 u216 u217 : Value} {w : World} {w0 : World} {R : HProp} (p : Nat) (c : Ca) (s : Sd) (P : SdR → Prop) (hP : ∀ r, P r → Reads w0 R r.1 r.2.clk) (N : Nat) (hN : N ≤ 41) (ov : Value) (hin : RcIn w0 R p c s P N false 0 ov w)
    (hK : ∀ (v9 v10 v11 v12 v146 v147 v148 v149 v150 v151 v152 v153 v154 v155 v156 v157 v158 v159 v160 v161 v162 v163 v164 v165 v166 v167 v168 v169 v170 v171 v172 v173 v174 v175 v176 v177 v178 v179 v180 v181 v182 v183 v184 v185 v186 v187 v188 v189 v190 v191 v192 v193 v194 v195 v196 v197 v198 v199 v200 v201 v202 v203 v204 v205 v206 v207 v208 v209 v210 v211 v212 v213 v214 v215 v216 : Value) (wx : World), (RcOutB w0 R p c s P N v9 v10 wx) → Q .normal ⟨List.toArray ((.pointer (some ⟨p, 0, none⟩)) :: u1 :: u2 :: u3 :: u4 :: u5 :: u6 :: u7 :: u8 :: v9 :: v10 :: v11 :: v12 :: u13 :: u14 :: u15 :: u16 :: u17 :: u18 :: u19 :: u20 :: u21 :: u22 :: u23 :: u24 :: u25 :: u26 :: u27 :: u28 :: u29 :: u30 :: u31 :: u32 :: u33 :: u34 :: u35 :: u36 :: u37 :: u38 :: u39 :: u40 :: u41 :: u42 :: u43 :: u44 :: u45 :: u46 :: u47 :: u48 :: u49 :: u50 :: u51 :: u52 :: u53 :: u54 :: u55 :: u56 :: u57 :: u58 :: u59 :: u60 :: u61 :: u62 :: u63 :: u64 :: u65 :: u66 :: u67 :: u68 :: u69 :: u70 :: u71 :: u72 :: u73 :: u74 :: u75 :: u76 :: u77 :: u78 :: u79 :: u80 :: u81 :: u82 :: u83 :: u84 :: u85 :: u86 :: u87 :: u88 :: u89 :: u90 :: u91 :: u92 :: u93 :: u94 :: u95 :: u96 :: u97 :: u98 :: u99 :: u100 :: u101 :: u102 :: u103 :: u104 :: u105 :: u106 :: u107 :: u108 :: u109 :: u110 :: u111 :: u112 :: u113 :: u114 :: u115 :: u116 :: u117 :: u118 :: u119 :: u120 :: u121 :: u122 :: u123 :: u124 :: u125 :: u126 :: u127 :: u128 :: u129 :: u130 :: u131 :: u132 :: u133 :: u134 :: u135 :: u136 :: u137 :: u138 :: u139 :: u140 :: u141 :: u142 :: u143 :: u144 :: u145 :: v146 :: v147 :: v148 :: v149 :: v150 :: v151 :: v152 :: v153 :: v154 :: v155 :: v156 :: v157 :: v158 :: v159 :: v160 :: v161 :: v162 :: v163 :: v164 :: v165 :: v166 :: v167 :: v168 :: v169 :: v170 :: v171 :: v172 :: v173 :: v174 :: v175 :: v176 :: v177 :: v178 :: v179 :: v180 :: v181 :: v182 :: v183 :: v184 :: v185 :: v186 :: v187 :: v188 :: v189 :: v190 :: v191 :: v192 :: v193 :: v194 :: v195 :: v196 :: v197 :: v198 :: v199 :: v200 :: v201 :: v202 :: v203 :: v204 :: v205 :: v206 :: v207 :: v208 :: v209 :: v210 :: v211 :: v212 :: v213 :: v214 :: v215 :: v216 :: u217 :: []), []⟩ wx) :
    Code.wp Tryz.prog rcT_in_code Q ⟨List.toArray ((.pointer (some ⟨p, 0, none⟩)) :: u1 :: u2 :: u3 :: u4 :: u5 :: u6 :: u7 :: u8 :: (ov) :: (.bool false) :: (.int .i64 0) :: u12 :: u13 :: u14 :: u15 :: u16 :: u17 :: u18 :: u19 :: u20 :: u21 :: u22 :: u23 :: u24 :: u25 :: u26 :: u27 :: u28 :: u29 :: u30 :: u31 :: u32 :: u33 :: u34 :: u35 :: u36 :: u37 :: u38 :: u39 :: u40 :: u41 :: u42 :: u43 :: u44 :: u45 :: u46 :: u47 :: u48 :: u49 :: u50 :: u51 :: u52 :: u53 :: u54 :: u55 :: u56 :: u57 :: u58 :: u59 :: u60 :: u61 :: u62 :: u63 :: u64 :: u65 :: u66 :: u67 :: u68 :: u69 :: u70 :: u71 :: u72 :: u73 :: u74 :: u75 :: u76 :: u77 :: u78 :: u79 :: u80 :: u81 :: u82 :: u83 :: u84 :: u85 :: u86 :: u87 :: u88 :: u89 :: u90 :: u91 :: u92 :: u93 :: u94 :: u95 :: u96 :: u97 :: u98 :: u99 :: u100 :: u101 :: u102 :: u103 :: u104 :: u105 :: u106 :: u107 :: u108 :: u109 :: u110 :: u111 :: u112 :: u113 :: u114 :: u115 :: u116 :: u117 :: u118 :: u119 :: u120 :: u121 :: u122 :: u123 :: u124 :: u125 :: u126 :: u127 :: u128 :: u129 :: u130 :: u131 :: u132 :: u133 :: u134 :: u135 :: u136 :: u137 :: u138 :: u139 :: u140 :: u141 :: u142 :: u143 :: u144 :: u145 :: u146 :: u147 :: u148 :: u149 :: u150 :: u151 :: u152 :: u153 :: u154 :: u155 :: u156 :: u157 :: u158 :: u159 :: u160 :: u161 :: u162 :: u163 :: u164 :: u165 :: u166 :: u167 :: u168 :: u169 :: u170 :: u171 :: u172 :: u173 :: u174 :: u175 :: u176 :: u177 :: u178 :: u179 :: u180 :: u181 :: u182 :: u183 :: u184 :: u185 :: u186 :: u187 :: u188 :: u189 :: u190 :: u191 :: u192 :: u193 :: u194 :: u195 :: u196 :: u197 :: u198 :: u199 :: u200 :: u201 :: u202 :: u203 :: u204 :: u205 :: u206 :: u207 :: u208 :: u209 :: u210 :: u211 :: u212 :: u213 :: u214 :: u215 :: u216 :: u217 :: []), []⟩ w := by
  conv => arg 2; whnf
  have HK := Lib.hid hK
  clear hK
  have HP := Lib.hid hP; have HIN := Lib.hid hin
  clear hP hin
  go_wp2_with fail
  go_loopg [9, 10, 11] (N + 1) (fun g ov av iv wr => ∃ (ag : Bool) (j : Nat), j ≤ N ∧ av = .bool ag ∧ iv = .int .i64 j ∧ Hid ((if ag then 0 else N + 1 - j) = g) ∧ Hid (RcIn w0 R p c s P N ag j ov wr))
  case atStart => exact ⟨false, 0, Nat.zero_le _, rfl, rfl, rfl, HIN⟩
  case round =>
    clear HIN
    obtain ⟨ag, j, hj, rfl, rfl, hg, hin⟩ := hrel
    obtain ⟨rows, clk, out, vv, ⟨hcv, hrs, hps, hol, hinv, hown⟩, hag1, hag2⟩ := hin.out
    have h5 := (vecErr0 hcv).1
    obtain ⟨c0, hc, c6, hf⟩ := hown.second.rc_blk.rcb_facts h5
    obtain ⟨vad, vcap, hvv, hvc1, hvc2⟩ := hown.second.rc_shape
    cases ag
    rotate_left
    · have hl := hag1 rfl
      have HFIN : Hid (RcOut w0 R p c s P N true u9 wr) := Lib.hid ⟨rows, clk, out, vv, ⟨hcv, hrs, hps, hol, hinv, hown⟩, hag1, fun h => by cases h⟩
      subst hvv
      clear hcv hrs hps hinv hown hag1 hag2 hc hf hin
      by_cases hjl : j < rows.length
      all_goals
        go_wp2_with fail
        apply HK.out
        exact ⟨true, rfl, HFIN.out⟩
    obtain ⟨hl, hno⟩ := hag2 rfl
    by_cases hjl : j < N
    rotate_left
    · have HFIN : Hid (RcOut w0 R p c s P N false u9 wr) := Lib.hid ⟨rows, clk, out, vv, ⟨hcv, hrs, hps, hol, hinv, hown⟩, fun h => by (cases h), fun _ => ⟨hl, whereI_miss _ rows (fun l h => hno l (by omega) h)⟩⟩
      subst hvv
      rw [hl] at c6 hvc1
      clear hcv hrs hps hinv hown hag1 hag2 hc hf hin hno
      go_wp2_with fail
      apply HK.out
      exact ⟨false, rfl, HFIN.out⟩
    obtain ⟨sb, so, cap, hwv, hwc1, hwc2, hat⟩ := hown.second.rc_at (by omega)
    rw [hwv] at hvv c6
    clear hvv hvc1 hvc2
    have hjr : j < rows.length := by omega
    obtain ⟨x0, x1, x2⟩ := hat j hjr
    have hok : sdErr rows[j].2 = 0 := hrs _ (List.getElem_mem hjr)
    have hpj := hps _ (List.getElem_mem hjr)
    have hs5 := (vecErr0 (sdErr0 hok).2.2).1
    obtain ⟨rad, rcap, hrv, _, _⟩ := (HP.out _ hpj _ hown.drop.drop).shape
    have key : Calls Tryz.prog 69 #[.pointer (some ⟨p, 0, none⟩), .agg #[.int .i64 rows[j].2.who, .int .i64 rows[j].2.word, rows[j].1]] wr fun e w' => e = .returned (.bool (caReady clk rows[j].2)) ∧ Own w0 (IntSl u9 out * (RcO p vv rows c.me clk * R)) w' :=
      rcReady_any p clk rows[j].2 rows[j].1 hs5 (fun i _ => vec_get hcv i) (fun w' ho' => ⟨(ho'.second.rc_blk.rcb_facts h5).2.1, HP.out _ hpj _ ho'.drop.drop⟩) hown
    obtain ⟨a, ha⟩ : ∃ a : Nat, rows[j].2.who = (a : Int) := ⟨rows[j].2.who.toNat, by have := (sdErr0 hok).1; simp [isMember] at this; omega⟩
    have ha5 : a < 5 := by have := (sdErr0 hok).1; simp [isMember] at this; omega
    obtain ⟨wd, hwd⟩ : ∃ wd, wd = rows[j].2.word := ⟨_, rfl⟩
    obtain ⟨B, hB⟩ : ∃ B, B = caReady clk rows[j].2 := ⟨_, rfl⟩
    rw [← hB, ← hwd, ha, hrv, hs5] at key
    rw [ha] at x0
    rw [← hwd] at x1
    rw [hrv, hs5] at x2
    have HKEY := Lib.hid key
    have HHV := Lib.hid hwv
    have HHH := Lib.hid hown
    rw [hl] at c6 hwc1
    have hJ0 : (0 : Int) ≤ (j : Int) := by omega
    have hJN : (j : Int) < (N : Int) := by omega
    have hNC : (N : Int) ≤ (cap : Int) := by omega
    have HCV := Lib.hid hcv
    have HRS := Lib.hid hrs
    have HPS := Lib.hid hps
    have HINV := Lib.hid hinv
    have HNO := Lib.hid hno
    have HOK := Lib.hid hok
    have HB := Lib.hid hB
    have HHA := Lib.hid ha
    have HWD := Lib.hid hwd
    have HG := Lib.hid hg.out
    clear key hwv hown hat hpj hag1 hag2 hin hg hc hf c0 hcv hrs hps hinv hno hB ha hwd hrv
    clear hok
    go_wp2_with fail
    refine HKEY.out.mono ?_
    rintro e w2 ⟨rfl, ho⟩
    have HO2 := Lib.hid ho
    cases B
    · -- not this one
      have HRI : Hid (RcIn w0 R p c s P N false (j + 1) u9 w2) := Lib.hid ⟨rows, clk, out, vv, ⟨HCV.out, HRS.out, HPS.out, hol, HINV.out, ho⟩, fun h => by (cases h), fun _ => ⟨hl, fun l h1 h2 => by
        by_cases e : l = j
        · subst e; exact HB.out.symm
        · exact HNO.out l (by omega) h2⟩⟩
      clear ho c6 x0 x1 x2 HKEY HHH
      go_wp2_with fail
      go_roundg (N + 1 - (j + 1))
      case measure => have := HG.out; simp at this; omega
      case rel => exact ⟨false, j + 1, by omega, rfl, by go_num, Lib.hid rfl, HRI⟩
    -- this one
    have hhead := HCV.out
    have hrd : caReady clk rows[j].2 = true := HB.out.symm
    have hbump := caReady_bump hhead HOK.out hrd
    have hin : whereI (caReady clk) (rows.map (·.2)) = (j : Int) := by
      rw [whereI_map]
      exact whereI_hit _ rows j hjr (fun l h => HNO.out l h (by omega)) hrd
    have hk2 : j < (rows.map (·.2)).length := by rw [List.length_map]; exact hjr
    have hstep := HINV.out.step hk2 hin
    rw [show (rows.map (·.2))[j] = rows[j].2 from List.getElem_map ..] at hstep
    unfold caBump caAt at hbump hstep
    rw [HHA.out, Int.toNat_natCast] at hbump hstep
    rw [← HWD.out] at hstep
    obtain ⟨b0, b1'⟩ := vec_get HCV.out a
    obtain ⟨y, hy⟩ : ∃ y, y = clk.getD a 0 := ⟨_, rfl⟩
    obtain ⟨D, hD⟩ : ∃ D, D = clk.set a (y + 1) := ⟨_, rfl⟩
    rw [← hy] at b0 b1' hbump hstep
    rw [← hD, map_erase] at hstep
    rw [← hD] at hbump
    have HDV := Lib.hid hbump.1
    have HSTEP := Lib.hid hstep
    have hD5 := (vecErr0 hbump.1).1
    clear hbump hstep hk2 hin hrd hhead
    -- what is where
    have same : ∀ (w' : World) (Q : HProp), Own w0 (RcO p vv rows c.me clk * Q) w' → w'.cell? ⟨p, 6, none⟩ = some (.slice (some ⟨sb, so, none⟩) N cap) ∧ w'.cell? ⟨sb, so + j * 3, none⟩ = some (.int .i64 (a : Int)) ∧ w'.cell? ⟨sb, so + j * 3 + 1, none⟩ = some (.int .i64 wd) ∧ w'.cell? ⟨p, 1 + a, none⟩ = some (.int .i64 y) ∧ w'.frozen? ⟨p, 1 + a, none⟩ = false := by
      intro w' Q h
      obtain ⟨_, hc, c6, hf⟩ := h.rc_blk.rcb_facts h5
      obtain ⟨sb', so', cap', e, _, _, hat'⟩ := h.rc_at (by omega)
      rw [HHV.out] at e
      injection e with e1 _ e3
      injection e1 with e1
      injection e1 with e1 e2 _
      subst e1; subst e2; subst e3
      obtain ⟨t0, t1, _⟩ := hat' j hjr
      rw [HHA.out] at t0
      rw [← HWD.out] at t1
      rw [HHV.out, hl] at c6
      have d := hc a ha5
      rw [← hy] at d
      exact ⟨c6, t0, t1, d, hf _ _⟩
    have SAME := Lib.hid same
    obtain ⟨k6, k0, k1, _, _⟩ := same _ _ ho.second
    clear same ho c6 x0 x1 x2 HKEY HHH
    have HHL := Lib.hid hl
    have HY := Lib.hid hy; have HD := Lib.hid hD; have HD5 := Lib.hid hD5
    clear hy hD hD5
    have a0 : (0 : Int) ≤ (a : Int) := by omega
    have a5 : (a : Int) < 5 := by omega
    have hol2 : out.length ≤ 41 := by omega
    go_upto_region 34 with (at_builtin; refine wpList_app rfl _ _ 57 rfl 3 1 8 _ info_int Tryz.underlying57 rfl (by decide) rfl (HO2.out.alloc' _) rfl (by rfl) (Rd_lit (by simp) (by unfold maxLen; omega)) (by intro u hu; simp at hu; subst hu; rfl) (by unfold maxLen; omega) (by omega) ?_; intro v3 w3 hown; obtain ⟨m6, m0, _, m1, mf⟩ := SAME.out _ _ hown.second; have HN := Lib.hid hown; clear hown)
    have hs := HN.out.second.rc_blk.rcb_bump h5 ha5 (y + 1)
    rw [← HD.out] at hs
    have HS0 := Lib.hid hs.drew
    clear hs k6 k0 k1
    refine wp_region_tail 16 (by kernel_rfl) (by kernel_rfl) ?_
    simp only [List.take_succ_cons, List.take_zero, List.drop_succ_cons, List.drop_zero]
    repeat still_step
    refine wpStill_nil ?_
    go_upto_region 36 with fail
    generalize hW2 : (World.drew (World.setCell _ _ _)) = W2 at HS0 ⊢
    clear hW2 m6 m0 m1 mf
    have HS : Hid (Own w0 (rcBlk p c.me D vv * (Sl 59 3 vv rows.length (rows.flatMap sdCells) * (IntSl v3 (out ++ [wd]) * R))) W2) := Lib.hid (by
      have h1 : Sl 3 1 v3 (out.length + 1) (out.map (Value.int .i64) ++ [.int .i64 wd]) = IntSl v3 (out ++ [wd]) := by unfold IntSl; rw [List.length_append, List.map_append]; rfl
      rw [← h1]
      exact HS0.out)
    clear HS0 HN HO2
    have hone : ∀ (l : List SdR), (∀ r ∈ l, r ∈ rows) → ∀ u ∈ l.flatMap sdCells, u.oneCell' = true := fun l h => Own.sds_one HP.out HS.out.drop.drop.drop (fun r hr => HPS.out r (h r hr))
    have HONE1 := Lib.hid (hone (rows.take j) (fun r hr => List.mem_of_mem_take hr))
    have HONE2 := Lib.hid (hone (rows.drop (j + 1)) (fun r hr => List.mem_of_mem_drop hr))
    have n6 := (HS.out.rcb_facts HD5.out).2.2.1
    have hrd := Own.rd HS.out.second
    rw [HHV.out, HHL.out] at hrd
    have HR1 := Lib.hid (Rd.sd_front hrd (Nat.le_of_lt hjl))
    rw [HHV.out, HHL.out] at n6
    have HL1 : Hid (((rows.take j).flatMap sdCells).length = j * 3) := Lib.hid (by rw [sd_len, List.length_take]; have := HHL.out; omega)
    have HL2 : Hid (((rows.drop (j + 1)).flatMap sdCells).length = (N - (j + 1)) * 3) := Lib.hid (by rw [sd_len, List.length_drop]; have := HHL.out; omega)
    have HFAR : Hid (∀ (w' : World) (Q : HProp), Own w0 (Q * (rcBlk p c.me D vv * (Sl 59 3 vv rows.length (rows.flatMap sdCells) * (IntSl v3 (out ++ [wd]) * R)))) w' → w'.cell? ⟨p, 6, none⟩ = some (.slice (some ⟨sb, so, none⟩) N cap) ∧ w'.frozen? ⟨p, 6, none⟩ = false ∧ Rd w' (.slice (some (if cap = j + 1 then (⟨sb, so, none⟩ : Addr) else ⟨sb, so + (j + 1) * 3, none⟩)) (N - (j + 1)) (cap - (j + 1))) (N - (j + 1)) ((rows.drop (j + 1)).flatMap sdCells)) := Lib.hid (fun w' Q h => by
      obtain ⟨_, _, c6, hf⟩ := h.second.rcb_facts HD5.out
      have h2 := Own.rd h.third
      rw [HHV.out, HHL.out] at h2
      rw [HHV.out, HHL.out] at c6
      exact ⟨c6, hf _ _, Rd.sd_back HHL.out h2 hjl⟩)
    have HFIN : Hid (∀ (w' : World) (v' : Value), Own w0 (Sl 59 3 v' (0 + j + (N - (j + 1))) ([] ++ (rows.take j).flatMap sdCells ++ (rows.drop (j + 1)).flatMap sdCells) * (rcBlk p c.me D vv * (Sl 59 3 vv rows.length (rows.flatMap sdCells) * (IntSl v3 (out ++ [wd]) * R)))) w' → RcIn w0 R p c s P N true (j + 1) v3 (w'.setCell ⟨p, 6, none⟩ v')) := Lib.hid (fun w' v' h => by
      have h1 := h.second.rcb_put HD5.out v'
      have e1 : (rows.take j).flatMap sdCells ++ (rows.drop (j + 1)).flatMap sdCells = (rows.eraseIdx j).flatMap sdCells := by rw [← List.flatMap_append, List.eraseIdx_eq_take_drop_succ]
      have e2 : 0 + j + (N - (j + 1)) = (rows.eraseIdx j).length := by rw [List.length_eraseIdx_of_lt hjr, HHL.out]; omega
      rw [List.nil_append, e1, e2] at h1
      have h3 : Own w0 (Sl 59 3 vv rows.length (rows.flatMap sdCells) * (IntSl v3 (out ++ [wd]) * (RcO p v' (rows.eraseIdx j) c.me D * R))) _ := h1.perm (by unfold RcO; ac_rfl)
      refine ⟨rows.eraseIdx j, D, out ++ [wd], v', ⟨HDV.out, fun r hr => HRS.out r (List.mem_of_mem_eraseIdx hr), fun r hr => HPS.out r (List.mem_of_mem_eraseIdx hr), ?_, HSTEP.out, h3.drop⟩, fun _ => ?_, fun h => by cases h⟩
      · rw [List.length_append, List.length_eraseIdx_of_lt hjr]; simp only [List.length_singleton]; omega
      · rw [List.length_eraseIdx_of_lt hjr, HHL.out]; omega)
    clear hone hrd
    go_upto_region 37 with (at_builtin; refine wpList_app rfl _ _ 66 rfl 59 3 40 _ info_sd Tryz.underlying66 rfl (by decide) rfl (HS.out.sl_nil _ _) rfl HL1.out HR1.out HONE1.out (by unfold maxLen; omega) (by omega) ?_; intro v4 w4 hown; obtain ⟨m6, _, hr3⟩ := HFAR.out _ _ hown; have HR3 := Lib.hid hr3; have HN4 := Lib.hid hown; clear hown hr3)
    by_cases hce : cap = j + 1
    · have HR4 := Lib.hid (show Rd w4 (.slice (some ⟨sb, so, none⟩) (N - (j + 1)) 0) (N - (j + 1)) ((rows.drop (j + 1)).flatMap sdCells) by have := HR3.out; rw [if_pos hce, show cap - (j + 1) = 0 by omega] at this; exact this)
      clear HR3
      go_wp2_with (at_builtin; refine wpList_app rfl _ _ 66 rfl 59 3 40 _ info_sd Tryz.underlying66 rfl (by decide) rfl HN4.out rfl HL2.out HR4.out HONE2.out (by unfold maxLen; omega) (by omega) ?_; intro v5 w5 hown; obtain ⟨ad4, L4, cp4, rfl⟩ := sl_shape hown; obtain ⟨m6', mf', _⟩ := HFAR.out _ _ hown; have HN5 := Lib.hid hown; clear hown m6)
      go_roundg 0
      case measure => have := HG.out; simp at this; omega
      case rel => exact ⟨true, j + 1, by omega, rfl, by go_num, Lib.hid rfl, Lib.hid (HFIN.out _ _ HN5.out)⟩
    · have HR4 := Lib.hid (show Rd w4 (.slice (some ⟨sb, so + (j + 1) * 3, none⟩) (N - (j + 1)) (cap - (j + 1))) (N - (j + 1)) ((rows.drop (j + 1)).flatMap sdCells) by have := HR3.out; rw [if_neg hce] at this; exact this)
      clear HR3
      go_wp2_with (at_builtin; refine wpList_app rfl _ _ 66 rfl 59 3 40 _ info_sd Tryz.underlying66 rfl (by decide) rfl HN4.out rfl HL2.out HR4.out HONE2.out (by unfold maxLen; omega) (by omega) ?_; intro v5 w5 hown; obtain ⟨ad4, L4, cp4, rfl⟩ := sl_shape hown; obtain ⟨m6', mf', _⟩ := HFAR.out _ _ hown; have HN5 := Lib.hid hown; clear hown m6)
      go_roundg 0
      case measure => have := HG.out; simp at this; omega
      case rel => exact ⟨true, j + 1, by omega, rfl, by go_num, Lib.hid rfl, Lib.hid (HFIN.out _ _ HN5.out)⟩
end Go.Proofs.YtdfjbnfdknpahaaGreatDoor
