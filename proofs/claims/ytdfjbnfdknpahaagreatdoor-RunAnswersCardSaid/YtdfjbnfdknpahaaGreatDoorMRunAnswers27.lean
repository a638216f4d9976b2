/- The reference's Cause: Take. -/
import Derived.Test.YtdfjbnfdknpahaaGreatDoorMRunAnswers26
import Derived.Test.YtdfjbnfdknpahaaGreatDoorMRunAnswers17
namespace Go.Proofs.YtdfjbnfdknpahaaGreatDoor
set_option linter.unusedVariables false
set_option linter.unusedSimpArgs false
open Go.RowKit
def RcX (w0 : World) (R : HProp) (p : Nat) (c : Ca) (s : Sd) (P : SdR → Prop) (M : Nat) (ag : Bool) (ov : Value) (wr : World) : Prop :=
  ∃ rows clk out vv, RcSt w0 R p c s P rows clk out vv ov wr ∧ rows.length = M ∧ (ag = false → whereI (fun r : SdR => caReady clk r.2) rows = -1)
def RcDone (w0 : World) (R : HProp) (p : Nat) (c : Ca) (s : Sd) (P : SdR → Prop) (ov : Value) (wr : World) : Prop :=
  ∃ rows vv, rows.map (·.2) = (caRun c s).2.1 ∧ (∀ r ∈ rows, P r) ∧ Own w0 (IntSl ov (s.word :: (caRun c s).2.2) * (RcO p vv rows c.me (caRun c s).1 * R)) wr
theorem RcX.done {w0 : World} {R : HProp} {p : Nat} {c : Ca} {s : Sd} {P : SdR → Prop} {M : Nat} {ov : Value} {wr : World} (h : RcX w0 R p c s P M false ov wr) : RcDone w0 R p c s P ov wr := by
  obtain ⟨rows, clk, out, vv, ⟨_, _, hps, _, hinv, hown⟩, _, hno⟩ := h
  obtain ⟨e1, e2, e3⟩ := hinv.done (by rw [whereI_map]; exact hno rfl)
  exact ⟨rows, vv, e2.symm, hps, by rw [e1, e3]; exact hown⟩
noncomputable def rcT_out_code : Code := ((Tryz.f43.body.bind (findBlock 2)).getD .skip)
set_option maxRecDepth 1000000 in
set_option maxHeartbeats 4000000 in
theorem rcT_out {Q : Exit → Act → World → Prop} {u1 u2 u3 u4 u5 u6 u7 u8 u11 u12 u13 u14 u15 u16 u17 u18 u19 u20 u21 u22 u23 u24 u25 u26 u27 u28 u29 u30 u31 u32 u33 u34 u35 u36 u37 u38 u39 u40 u41 u42 u43 u44 u45 u46 u47 u48 u49 u50 u51 u52 u53 u54 u55 u56 u57 u58 u59 u60 u61 u62 u63 u64 u65 u66 u67 u68 u69 u70 u71 u72 u73 u74 u75 u76 u77 u78 u79 u80 u81 u82 u83 u84 u85 u86 u87 u88 u89 u90 u91 u92 u93 u94 u95 u96 u97 u98 u99 u100 u101 u102 u103 u104 u105 u106 u107 u108 u109 u110 u111 u112 u113 u114 u115 u116 u117 u118 u119 u120 u121 u122 u123 u124 u125 u126 u127 u128 u129 u130 u131 u132 u133 u134 u135 u136 u137 u138 u139 u140 u141 u142 u143 u144 u145 u146 u147 u148 u149 u150 u151 u152 u153 u154 u155 u156 u157 u158 u159 u160 u161 u162 u163 u164 u165 u166 u167 u168 u169 u170 u171 u172 u173 u174 u175 u176 u177 u178 u179 u180 u181 u182 u183 u184 u185 u186 u187 u188 u189 u190 u191 u192 u193 u194 u195 u196 u197 u198 u199 u200 u201 u202 u203 u204 u205 u206 u207 u208 u209 u210 u211 u212 u213 u214 u215 u216 u217 : Value} {w : World} {w0 : World} {R : HProp} (p : Nat) (c : Ca) (s : Sd) (P : SdR → Prop) (hP : ∀ r, P r → Reads w0 R r.1 r.2.clk) (N : Nat) (hN : N ≤ 41) (ov : Value) (hin : RcX w0 R p c s P N true ov w)
    (hK : ∀ (v9 v10 v11 v12 v145 v146 v147 v148 v149 v150 v151 v152 v153 v154 v155 v156 v157 v158 v159 v160 v161 v162 v163 v164 v165 v166 v167 v168 v169 v170 v171 v172 v173 v174 v175 v176 v177 v178 v179 v180 v181 v182 v183 v184 v185 v186 v187 v188 v189 v190 v191 v192 v193 v194 v195 v196 v197 v198 v199 v200 v201 v202 v203 v204 v205 v206 v207 v208 v209 v210 v211 v212 v213 v214 v215 v216 : Value) (wx : World), (RcDone w0 R p c s P v9 wx) → Q .normal ⟨List.toArray ((.pointer (some ⟨p, 0, none⟩)) :: u1 :: u2 :: u3 :: u4 :: u5 :: u6 :: u7 :: u8 :: v9 :: v10 :: v11 :: v12 :: u13 :: u14 :: u15 :: u16 :: u17 :: u18 :: u19 :: u20 :: u21 :: u22 :: u23 :: u24 :: u25 :: u26 :: u27 :: u28 :: u29 :: u30 :: u31 :: u32 :: u33 :: u34 :: u35 :: u36 :: u37 :: u38 :: u39 :: u40 :: u41 :: u42 :: u43 :: u44 :: u45 :: u46 :: u47 :: u48 :: u49 :: u50 :: u51 :: u52 :: u53 :: u54 :: u55 :: u56 :: u57 :: u58 :: u59 :: u60 :: u61 :: u62 :: u63 :: u64 :: u65 :: u66 :: u67 :: u68 :: u69 :: u70 :: u71 :: u72 :: u73 :: u74 :: u75 :: u76 :: u77 :: u78 :: u79 :: u80 :: u81 :: u82 :: u83 :: u84 :: u85 :: u86 :: u87 :: u88 :: u89 :: u90 :: u91 :: u92 :: u93 :: u94 :: u95 :: u96 :: u97 :: u98 :: u99 :: u100 :: u101 :: u102 :: u103 :: u104 :: u105 :: u106 :: u107 :: u108 :: u109 :: u110 :: u111 :: u112 :: u113 :: u114 :: u115 :: u116 :: u117 :: u118 :: u119 :: u120 :: u121 :: u122 :: u123 :: u124 :: u125 :: u126 :: u127 :: u128 :: u129 :: u130 :: u131 :: u132 :: u133 :: u134 :: u135 :: u136 :: u137 :: u138 :: u139 :: u140 :: u141 :: u142 :: u143 :: u144 :: v145 :: v146 :: v147 :: v148 :: v149 :: v150 :: v151 :: v152 :: v153 :: v154 :: v155 :: v156 :: v157 :: v158 :: v159 :: v160 :: v161 :: v162 :: v163 :: v164 :: v165 :: v166 :: v167 :: v168 :: v169 :: v170 :: v171 :: v172 :: v173 :: v174 :: v175 :: v176 :: v177 :: v178 :: v179 :: v180 :: v181 :: v182 :: v183 :: v184 :: v185 :: v186 :: v187 :: v188 :: v189 :: v190 :: v191 :: v192 :: v193 :: v194 :: v195 :: v196 :: v197 :: v198 :: v199 :: v200 :: v201 :: v202 :: v203 :: v204 :: v205 :: v206 :: v207 :: v208 :: v209 :: v210 :: v211 :: v212 :: v213 :: v214 :: v215 :: v216 :: u217 :: []), []⟩ wx) :
    Code.wp Tryz.prog rcT_out_code Q ⟨List.toArray ((.pointer (some ⟨p, 0, none⟩)) :: u1 :: u2 :: u3 :: u4 :: u5 :: u6 :: u7 :: u8 :: (ov) :: (.bool true) :: u11 :: u12 :: u13 :: u14 :: u15 :: u16 :: u17 :: u18 :: u19 :: u20 :: u21 :: u22 :: u23 :: u24 :: u25 :: u26 :: u27 :: u28 :: u29 :: u30 :: u31 :: u32 :: u33 :: u34 :: u35 :: u36 :: u37 :: u38 :: u39 :: u40 :: u41 :: u42 :: u43 :: u44 :: u45 :: u46 :: u47 :: u48 :: u49 :: u50 :: u51 :: u52 :: u53 :: u54 :: u55 :: u56 :: u57 :: u58 :: u59 :: u60 :: u61 :: u62 :: u63 :: u64 :: u65 :: u66 :: u67 :: u68 :: u69 :: u70 :: u71 :: u72 :: u73 :: u74 :: u75 :: u76 :: u77 :: u78 :: u79 :: u80 :: u81 :: u82 :: u83 :: u84 :: u85 :: u86 :: u87 :: u88 :: u89 :: u90 :: u91 :: u92 :: u93 :: u94 :: u95 :: u96 :: u97 :: u98 :: u99 :: u100 :: u101 :: u102 :: u103 :: u104 :: u105 :: u106 :: u107 :: u108 :: u109 :: u110 :: u111 :: u112 :: u113 :: u114 :: u115 :: u116 :: u117 :: u118 :: u119 :: u120 :: u121 :: u122 :: u123 :: u124 :: u125 :: u126 :: u127 :: u128 :: u129 :: u130 :: u131 :: u132 :: u133 :: u134 :: u135 :: u136 :: u137 :: u138 :: u139 :: u140 :: u141 :: u142 :: u143 :: u144 :: u145 :: u146 :: u147 :: u148 :: u149 :: u150 :: u151 :: u152 :: u153 :: u154 :: u155 :: u156 :: u157 :: u158 :: u159 :: u160 :: u161 :: u162 :: u163 :: u164 :: u165 :: u166 :: u167 :: u168 :: u169 :: u170 :: u171 :: u172 :: u173 :: u174 :: u175 :: u176 :: u177 :: u178 :: u179 :: u180 :: u181 :: u182 :: u183 :: u184 :: u185 :: u186 :: u187 :: u188 :: u189 :: u190 :: u191 :: u192 :: u193 :: u194 :: u195 :: u196 :: u197 :: u198 :: u199 :: u200 :: u201 :: u202 :: u203 :: u204 :: u205 :: u206 :: u207 :: u208 :: u209 :: u210 :: u211 :: u212 :: u213 :: u214 :: u215 :: u216 :: u217 :: []), []⟩ w := by
  conv => arg 2; whnf
  have HK := Lib.hid hK
  clear hK
  have HP := Lib.hid hP; have HIN := Lib.hid hin
  clear hP hin
  go_wp2_with fail
  go_loopg [9, 10] (2 * N + 1) (fun g ov av wr => ∃ (ag : Bool) (M : Nat), M ≤ 41 ∧ av = .bool ag ∧ Hid (2 * M + ag.toNat = g) ∧ Hid (RcX w0 R p c s P M ag ov wr))
  case atStart => exact ⟨true, N, hN, rfl, Lib.hid rfl, HIN⟩
  case round =>
    clear HIN
    obtain ⟨ag, M, hM, rfl, hg, HX⟩ := hrel
    cases ag
    · go_wp2_with fail
      apply HK.out
      exact HX.out.done
    have HRI : Hid (RcIn w0 R p c s P M false 0 u9 wr) := Lib.hid (by
      obtain ⟨rows, clk, out, vv, hst, hl, _⟩ := HX.out
      exact ⟨rows, clk, out, vv, hst, fun h => by (cases h), fun _ => ⟨hl, fun l h => by omega⟩⟩)
    clear HX
    go_upto_block 4 with fail
    refine rcT_in p c s P HP.out M hM _ HRI.out ?_
    intros
    rename_i hcut
    obtain ⟨ag, e, rows, clk, out, vv, hst, h1, h2⟩ := hcut
    subst e
    cases ag
    · obtain ⟨hl, hno⟩ := h2 rfl
      have HX : Hid (RcX w0 R p c s P M false _ _) := Lib.hid ⟨rows, clk, out, vv, hst, hl, fun _ => hno⟩
      clear hst h1 h2 hno
      go_wp2_with fail
      go_roundg (2 * M)
      case measure => have := hg.out; simp at this; omega
      case rel => exact ⟨false, M, hM, rfl, Lib.hid rfl, HX⟩
    · have hl := h1 rfl
      have HX : Hid (RcX w0 R p c s P rows.length true _ _) := Lib.hid ⟨rows, clk, out, vv, hst, rfl, fun h => by cases h⟩
      obtain ⟨M2, hM2⟩ : ∃ M2, M2 = rows.length := ⟨_, rfl⟩
      rw [← hM2] at HX hl
      clear hst h1 h2 hM2
      go_wp2_with fail
      go_roundg (2 * M2 + 1)
      case measure => have := hg.out; simp at this; omega
      case rel => exact ⟨true, M2, by omega, rfl, Lib.hid rfl, HX⟩
set_option maxRecDepth 100000 in
set_option maxHeartbeats 4000000 in
theorem rcTake_no {w0 w : World} {R : HProp} (p : Nat) (c : Ca) (s : Sd) (cv : Value) (hs : sdErr s ≠ 0) (hv : Reads w0 R cv s.clk) (h : Own w0 R w) :
    Calls Tryz.prog 43 #[.pointer (some ⟨p, 0, none⟩), .agg #[.int .i64 s.who, .int .i64 s.word, cv]] w fun e w' => e = .returned (.tuple #[.slice none 0 0, .int .i64 (caErr c s : Nat)]) ∧ Own w0 R w' := by
  have hE : caErr c s = sdErr s := by unfold caErr; rw [if_pos hs]
  rw [hE]
  clear hE
  obtain ⟨vad, vcap, rfl, hvc1, hvc2⟩ := (hv _ h).shape
  obtain ⟨a, word, V⟩ := s
  unfold sdErr at hs ⊢
  dsimp only at hs hv h hvc1 hvc2 ⊢
  obtain ⟨b1, hb_b1⟩ : ∃ zz_, zz_ = (w).heap.size := ⟨_, rfl⟩
  obtain ⟨w1, hw_w1⟩ : ∃ zz_, zz_ = (w).alloc (.cells #[.int .i64 a, .int .i64 word, .slice vad V.length vcap] 59 (0, 0)) := ⟨_, rfl⟩
  have h_HO := (h).alloc (.cells #[.int .i64 a, .int .i64 word, .slice vad V.length vcap] 59 (0, 0))
  rw [← hb_b1, ← hw_w1] at h_HO
  have HO := Lib.hid h_HO
  clear h_HO
  obtain ⟨x0, x1, x2, _⟩ := (show Own w0 (SdO b1 a word (.slice vad V.length vcap) * R) w1 from HO.out).sd
  have HVV := Lib.hid (hv _ HO.out.drop)
  have HO2 := Lib.hid HO.out.drop
  clear HO
  by_cases hm : isMember a = true ∧ isWord word = true
  rotate_left
  · have hE : (if isMember a = false then 1 else if isWord word = false then 1 else vecErr V) = 1 := by
      cases h1 : isMember a
      · rfl
      cases h2 : isWord word
      · rfl
      exact absurd ⟨h1, h2⟩ hm
    rw [hE]
    have hcs : a < 0 ∨ (¬ a < 0 ∧ 4 < a) ∨ (¬ a < 0 ∧ ¬ 4 < a ∧ word < 1) ∨ (¬ a < 0 ∧ ¬ 4 < a ∧ ¬ word < 1 ∧ 30 < word) := by
      simp [isMember, isWord] at hm; omega
    have H := Lib.hid h; have HV := Lib.hid hv; have HM := Lib.hid hm; have HS := Lib.hid hs; have HE := Lib.hid hE
    clear h hv hm hs hE
    rcases hcs with h1 | ⟨h1, h2⟩ | ⟨h1, h2, h3⟩ | ⟨h1, h2, h3, h4⟩
    all_goals
      go_enter Tryz.func43, Tryz.ntmps43
      go_upto_region 1 with fail
      rw [← hb_b1, ← hw_w1]
      clear hb_b1 hw_w1
      go_wp2
      go_ret2
      exact ⟨rfl, HO2.out⟩
  obtain ⟨hm, hw⟩ := hm
  rw [hm, hw, if_neg (by simp), if_neg (by simp)] at hs
  rw [hm, hw, if_neg (show ¬ true = false by simp), if_neg (show ¬ true = false by simp)]
  have hmb : 0 ≤ a ∧ a < 5 := by simpa [isMember] using hm
  have hwb : 1 ≤ word ∧ word ≤ 30 := by simpa [isWord] using hw
  obtain ⟨E, hE⟩ : ∃ E, E = vecErr V := ⟨_, rfl⟩
  rw [← hE] at hs ⊢
  have t1 : ((E : Int) != 0) = true := by rw [bne_iff_ne]; omega
  have H := Lib.hid h; have HV := Lib.hid hv; have HM := Lib.hid hm; have HW := Lib.hid hw; have HS := Lib.hid hs; have HE := Lib.hid hE
  clear h hv hm hw hs hE
  go_enter Tryz.func43, Tryz.ntmps43
  go_upto_region 1 with fail
  rw [← hb_b1, ← hw_w1]
  clear hb_b1 hw_w1
  go_wp2_with fail
  refine (refVector_any _ V _ HVV.out).mono ?_
  rintro e w' ⟨rfl, rfl⟩
  rw [← HE.out]
  go_wp2
  go_ret2
  exact ⟨rfl, HO2.out⟩
/-- What the reference's Take gives. -/
def RcRes (w0 : World) (R : HProp) (p : Nat) (c : Ca) (s : Sd) (cv : Value) (rows : List SdR) (e : Ending) (w' : World) : Prop :=
  ∃ v' vv rows', e = .returned (.tuple #[v', .int .i64 (caErr c s : Nat)]) ∧ rows'.map (·.2) = (caTake c s).waits ∧ (∀ r ∈ rows', r ∈ rows ∨ r = (cv, s)) ∧ Own w0 (IntSl v' (caOut c s) * (RcO p vv rows' (caTake c s).me (caTake c s).clk * R)) w'
theorem RcRes.bad {w0 w : World} {R : HProp} {p : Nat} {c : Ca} {s : Sd} {cv vv : Value} {rows : List SdR} {E : Nat} (hE : caErr c s = E) (h0 : E ≠ 0) (he : rows.map (·.2) = c.waits) (h : Own w0 (RcO p vv rows c.me c.clk * R) w) : RcRes w0 R p c s cv rows (.returned (.tuple #[.slice none 0 0, .int .i64 (E : Nat)])) w := by
  have h1 : caErr c s ≠ 0 := by rw [hE]; exact h0
  refine ⟨.slice none 0 0, vv, rows, by rw [hE], ?_, fun r hr => .inl hr, ?_⟩
  · unfold caTake; rw [if_neg h1]; exact he
  · unfold caTake caOut; rw [if_neg h1, if_neg h1]; exact h.sl_nil 3 1
theorem RcRes.good {w0 w : World} {R : HProp} {p : Nat} {c : Ca} {s : Sd} {cv vv v' : Value} {rows rows2 : List SdR} (hE : caErr c s = 0) (hot : caOut c s = s.word :: (caRun c s).2.2) (htk : caTake c s = ⟨c.me, (caRun c s).1, (caRun c s).2.1⟩) (h1 : rows2.map (·.2) = (caRun c s).2.1) (h2 : ∀ r ∈ rows2, r ∈ rows)
    (h : Own w0 (IntSl v' (s.word :: (caRun c s).2.2) * (RcO p vv rows2 c.me (caRun c s).1 * R)) w) : RcRes w0 R p c s cv rows (.returned (.tuple #[v', .int .i64 0])) w :=
  ⟨v', vv, rows2, by rw [hE]; rfl, by rw [htk]; exact h1, fun r hr => .inl (h2 r hr), by rw [hot, htk]; exact h⟩
set_option maxRecDepth 100000 in
set_option maxHeartbeats 4000000 in
theorem rcTake_yes {w0 w : World} {R : HProp} (p : Nat) (c : Ca) (s : Sd) (cv vv : Value) (rows : List SdR) (hI : CaI c) (hs : sdErr s = 0) (he : rows.map (·.2) = c.waits) (hP : ∀ r, (r ∈ rows ∨ r = (cv, s)) → Reads w0 R r.1 r.2.clk) (h : Own w0 (RcO p vv rows c.me c.clk * R) w) :
    Calls Tryz.prog 43 #[.pointer (some ⟨p, 0, none⟩), .agg #[.int .i64 s.who, .int .i64 s.word, cv]] w fun e w' => RcRes w0 R p c s cv rows e w' := by
  obtain ⟨hm, hw, hV⟩ := sdErr0 hs
  have V5 := (vecErr0 hV).1
  have h5 := (vecErr0 hI.clk).1
  have hv : Reads w0 R cv s.clk := hP (cv, s) (.inr rfl)
  obtain ⟨vad, vcap, rfl, hvc1, hvc2⟩ := (hv _ h.drop).shape
  rw [V5] at hvc1 hv hP ⊢
  obtain ⟨q, hq⟩ : ∃ q : Nat, s.who = (q : Int) := ⟨s.who.toNat, by simp [isMember] at hm; omega⟩
  have hq5 : q < 5 := by simp [isMember] at hm; omega
  have q0 : (0 : Int) ≤ (q : Int) := by omega
  have q5 : (q : Int) < 5 := by omega
  have hwb : 1 ≤ s.word ∧ s.word ≤ 30 := by simpa [isWord] using hw
  obtain ⟨wd, hwd⟩ : ∃ wd, wd = s.word := ⟨_, rfl⟩
  rw [← hwd] at hwb
  rw [hq, ← hwd]
  obtain ⟨b1, hb_b1⟩ : ∃ zz_, zz_ = (w).heap.size := ⟨_, rfl⟩
  obtain ⟨w1, hw_w1⟩ : ∃ zz_, zz_ = (w).alloc (.cells #[.int .i64 q, .int .i64 wd, .slice vad 5 vcap] 59 (0, 0)) := ⟨_, rfl⟩
  have h_HO := (h).alloc (.cells #[.int .i64 q, .int .i64 wd, .slice vad 5 vcap] 59 (0, 0))
  rw [← hb_b1, ← hw_w1] at h_HO
  have HO := Lib.hid h_HO
  clear h_HO
  have HO1 : Hid (Own w0 (SdO b1 q wd (.slice vad 5 vcap) * (RcO p vv rows c.me c.clk * R)) w1) := Lib.hid HO.out
  obtain ⟨x0, x1, x2, _⟩ := HO1.out.sd
  have HVV := Lib.hid (hv _ HO1.out.drop.drop)
  obtain ⟨aa, e1, hca⟩ := HVV.out.at q (by rw [V5]; exact hq5)
  obtain ⟨z, hz⟩ : ∃ z, z = s.clk[q]'(by rw [V5]; exact hq5) := ⟨_, rfl⟩
  rw [← hz] at hca
  have hzg : caAt s.clk s.who = z := by unfold caAt; rw [hq, Int.toNat_natCast, hz, List.getD_eq_getElem?_getD, List.getElem?_eq_getElem (by rw [V5]; exact hq5)]; rfl
  have hzb := vec_get hV q
  rw [show s.clk.getD q 0 = z from by unfold caAt at hzg; rw [hq, Int.toNat_natCast] at hzg; exact hzg] at hzb
  obtain ⟨z0, z1⟩ := hzb
  subst e1
  obtain ⟨c0, hc, c6, _⟩ := HO1.out.second.rc_blk.rcb_facts h5
  obtain ⟨wad, wcap, hwv, hwc1, hwc2⟩ := HO1.out.second.rc_shape
  have cq := hc q hq5
  obtain ⟨y, hy⟩ : ∃ y, y = c.clk.getD q 0 := ⟨_, rfl⟩
  rw [← hy] at cq
  obtain ⟨y0, y1⟩ := vec_get hI.clk q
  rw [← hy] at y0 y1
  have hyg : caAt c.clk s.who = y := by unfold caAt; rw [hq, Int.toNat_natCast, hy]
  have hb := fun i (_ : i < 5) => vec_get hI.clk i
  obtain ⟨N, hN⟩ : ∃ N, N = rows.length := ⟨_, rfl⟩
  have hwl : c.waits.length = N := by rw [hN, ← he, List.length_map]
  have hN40 : N ≤ 40 := by rw [← hwl]; exact hI.len
  have hvec : vecErr s.clk = 0 := hV
  have HE_ := Lib.hid he
  have HV_ := Lib.hid hV
  have HHV := Lib.hid hwv
  have HB_ := Lib.hid hb
  have HPP := Lib.hid hP
  have HVEC := Lib.hid hvec
  clear he hc hm hP hV hb HO hvec hwv
  rw [HHV.out, ← hN] at c6
  rw [← hN] at hwc1
  have H := Lib.hid h; have HV := Lib.hid hv; have H5 := Lib.hid h5; have HW := Lib.hid hw; have HZ := Lib.hid hz; have HZG := Lib.hid hzg; have HI := Lib.hid hI; have HS := Lib.hid hs; have HQ := Lib.hid hq; have HY := Lib.hid hy; have HYG := Lib.hid hyg; have HWL := Lib.hid hwl; have HN := Lib.hid hN; have HWD := Lib.hid hwd
  clear h hv h5 hw hz hzg hI hs hq hy hyg hwl hN hwd
  go_enter Tryz.func43, Tryz.ntmps43
  go_upto_region 1 with fail
  rw [← hb_b1, ← hw_w1]
  clear hb_b1 hw_w1
  go_wp2_with fail
  refine (refVector_any _ s.clk _ HVV.out).mono ?_
  rintro e w' ⟨rfl, rfl⟩
  rw [HVEC.out]
  go_upto_region 6 with fail
  by_cases hme : (q : Int) = c.me
  · have t1 : ((q : Int) == c.me) = true := by rw [beq_iff_eq]; exact hme
    have hE3 : caErr c s = 3 := by unfold caErr; rw [if_neg (by rw [HS.out]; simp), if_pos (by rw [HQ.out]; exact hme)]
    have HME := Lib.hid hme; have HE3 := Lib.hid hE3
    clear hme hE3
    refine wp_region_tail 6 (by kernel_rfl) (by kernel_rfl) ?_
    simp only [List.take_succ_cons, List.take_zero, List.drop_succ_cons, List.drop_zero]
    repeat still_step
    refine wpStill_nil ?_
    go_wp2
    go_ret2
    exact RcRes.bad HE3.out (by simp) HE_.out HO1.out.drop.drew
  have t1 : ((q : Int) == c.me) = false := by rw [beq_eq_false_iff_ne]; exact hme
  by_cases hn0 : z = 0
  · have t2 : (z == 0) = true := by rw [beq_iff_eq]; exact hn0
    have hE3 : caErr c s = 1 := by unfold caErr; rw [if_neg (by rw [HS.out]; simp), if_neg (by rw [HQ.out]; exact hme), if_pos (by rw [HZG.out]; exact hn0)]
    have HME := Lib.hid hme; have HN0 := Lib.hid hn0; have HE3 := Lib.hid hE3
    clear hme hn0 hE3
    refine wp_region_tail 6 (by kernel_rfl) (by kernel_rfl) ?_
    simp only [List.take_succ_cons, List.take_zero, List.drop_succ_cons, List.drop_zero]
    repeat still_step
    refine wpStill_nil ?_
    go_wp2
    go_ret2
    exact RcRes.bad HE3.out (by simp) HE_.out HO1.out.drop.drew
  have t2 : (z == 0) = false := by rw [beq_eq_false_iff_ne]; exact hn0
  have H1 : Hid (s.who ≠ c.me) := Lib.hid (by rw [HQ.out]; exact hme)
  have H2 : Hid (caAt s.clk s.who ≠ 0) := Lib.hid (by rw [HZG.out]; exact hn0)
  by_cases hzy : z ≤ y
  · have t3 : decide (z ≤ y) = true := decide_eq_true hzy
    have hE3 : caErr c s = 7 := by unfold caErr; rw [if_neg (by rw [HS.out]; simp), if_neg H1.out, if_neg H2.out, if_pos (by rw [HZG.out, HYG.out]; exact hzy)]
    have HME := Lib.hid hme; have HN0 := Lib.hid hn0; have HZY := Lib.hid hzy; have HE3 := Lib.hid hE3
    clear hme hn0 hzy hE3
    refine wp_region_tail 6 (by kernel_rfl) (by kernel_rfl) ?_
    simp only [List.take_succ_cons, List.take_zero, List.drop_succ_cons, List.drop_zero]
    repeat still_step
    refine wpStill_nil ?_
    go_upto_region 10 with fail
    refine wp_region_tail 13 (by kernel_rfl) (by kernel_rfl) ?_
    simp only [List.take_succ_cons, List.take_zero, List.drop_succ_cons, List.drop_zero]
    repeat still_step
    refine wpStill_nil ?_
    go_wp2
    go_ret2
    exact RcRes.bad HE3.out (by simp) HE_.out HO1.out.drop.drew.drew
  have t3 : decide (z ≤ y) = false := decide_eq_false hzy
  have hE4 := caErr_at HS.out H1.out H2.out (by rw [HZG.out, HYG.out]; omega)
  rw [HWL.out] at hE4
  have HE4 := Lib.hid hE4
  clear hE4
  have HME := Lib.hid hme; have HN0 := Lib.hid hn0; have HZY := Lib.hid hzy
  clear hme hn0 hzy
  refine wp_region_tail 6 (by kernel_rfl) (by kernel_rfl) ?_
  simp only [List.take_succ_cons, List.take_zero, List.drop_succ_cons, List.drop_zero]
  repeat still_step
  refine wpStill_nil ?_
  go_upto_region 10 with fail
  refine wp_region_tail 13 (by kernel_rfl) (by kernel_rfl) ?_
  simp only [List.take_succ_cons, List.take_zero, List.drop_succ_cons, List.drop_zero]
  repeat still_step
  refine wpStill_nil ?_
  have HO2 := Lib.hid HO1.out.drew.drew
  clear HO1 HVV hca x0 x1 x2 c0 c6 cq
  go_wp2_with fail
  go_loopw [7] (fun iv wr => ∃ i : Nat, i ≤ N ∧ iv = .int .i64 i ∧ Hid (∀ l (_ : l < i) (h : l < rows.length), caSame s rows[l].2 = false) ∧ Hid (Own w0 (SdO b1 q wd (.slice (some aa) 5 vcap) * (RcO p vv rows c.me c.clk * R)) wr)) (fun iv _ => N - (intOf iv).toNat)
  case atStart => exact ⟨0, Nat.zero_le _, rfl, Lib.hid (fun l h => by omega), HO2⟩
  case round =>
    clear HO2
    obtain ⟨i, hi, rfl, hno, HO⟩ := hrel
    obtain ⟨x0, x1, x2, _⟩ := HO.out.sd
    obtain ⟨c0, hc, c6, _⟩ := HO.out.second.rc_blk.rcb_facts H5.out
    rw [HHV.out, ← HN.out] at c6
    by_cases hlt : i < N
    · obtain ⟨sb, so, cap, hwv, _, _, hat⟩ := HO.out.second.rc_at (by rw [← HN.out]; omega)
      rw [HHV.out, ← HN.out] at hwv
      injection hwv with e1 _ e3
      subst e1; subst e3
      have hir : i < rows.length := by rw [← HN.out]; exact hlt
      obtain ⟨d0, d1, d2⟩ := hat i hir
      have hok : sdErr rows[i].2 = 0 := HI.out.ok _ (by rw [← HE_.out]; exact List.mem_map.2 ⟨_, List.getElem_mem hir, rfl⟩)
      have hi1 := HPP.out rows[i] (.inl (List.getElem_mem hir)) _ HO.out.drop.drop
      have hs5 := (vecErr0 (sdErr0 hok).2.2).1
      obtain ⟨rad, rcap, hrv, hrc1, hrc2⟩ := hi1.shape
      rw [hrv] at hi1 d2
      obtain ⟨ra, e4, hra⟩ := hi1.at q (by omega)
      obtain ⟨aa', e5, hca⟩ := (HV.out _ HO.out.drop.drop).at q (by have := (vecErr0 HV_.out).1; omega)
      injection e5 with e5
      subst e5
      rw [← HZ.out] at hca
      subst e4
      obtain ⟨zz, hzz⟩ : ∃ zz, zz = rows[i].2.clk[q]'(by omega) := ⟨_, rfl⟩
      rw [← hzz] at hra
      have hzzg : rows[i].2.clk.getD q 0 = zz := by rw [hzz, List.getD_eq_getElem?_getD, List.getElem?_eq_getElem (by omega)]; rfl
      rw [hs5] at d2 hrc1
      obtain ⟨a, ha⟩ : ∃ a, a = rows[i].2.who := ⟨_, rfl⟩
      rw [← ha] at d0
      have hsame : caSame s rows[i].2 = (decide (a = (q : Int)) && decide (caAt rows[i].2.clk a = z)) := by unfold caSame; rw [← ha, HQ.out, ← HZG.out, HQ.out]
      have i0 : (0 : Int) ≤ (i : Int) := by omega
      have iN : (i : Int) < (N : Int) := by omega
      have NC : (N : Int) ≤ (wcap : Int) := by omega
      have HSM := Lib.hid hsame
      have HHA := Lib.hid ha
      have HZZ := Lib.hid hzzg
      have HHZ := Lib.hid hzz
      have HRV := Lib.hid hrv
      have HOKR := Lib.hid hok
      have HIR := Lib.hid hir
      clear hsame ha hzzg hok hat hc hi1 hzz hrv
      have next : caSame s (rows[i]'HIR.out).2 = false → ∀ l (_ : l < i + 1) (h : l < rows.length), caSame s rows[l].2 = false := fun h0 l h1 h2 => by
        by_cases e : l = i
        · subst e; exact h0
        · exact hno.out l (by omega) h2
      have HNX := Lib.hid next
      clear next hno
      by_cases haq : a = (q : Int)
      · have t4 : (a == (q : Int)) = true := by rw [beq_iff_eq]; exact haq
        have hcz : caAt (rows[i]'HIR.out).2.clk a = zz := by unfold caAt; rw [haq, Int.toNat_natCast]; exact HZZ.out
        by_cases hzq : zz = z
        · have t5 : (zz == z) = true := by rw [beq_iff_eq]; exact hzq
          have hE3 : caErr c s = 7 := by
            rw [HE4.out, if_pos]
            rw [List.any_eq_true]
            refine ⟨(rows[i]'HIR.out).2, by rw [← HE_.out]; exact List.mem_map.2 ⟨_, List.getElem_mem HIR.out, rfl⟩, ?_⟩
            rw [HSM.out, hcz, decide_eq_true haq, decide_eq_true hzq]; rfl
          have HAQ := Lib.hid haq; have HZQ := Lib.hid hzq; have HE3 := Lib.hid hE3; have HCZ := Lib.hid hcz
          clear haq hzq hE3 hcz
          go_wp2_with fail
          go_quiet (fail)
          go_wp2
          go_ret2
          exact RcRes.bad HE3.out (by simp) HE_.out (HO.out.drop.drewN _)
        · have t5 : (zz == z) = false := by rw [beq_eq_false_iff_ne]; exact hzq
          have HN2 := Lib.hid (HNX.out (by rw [HSM.out, hcz, decide_eq_false hzq, Bool.and_false]))
          have HAQ := Lib.hid haq; have HZQ := Lib.hid hzq; have HCZ := Lib.hid hcz
          clear haq hzq hcz
          go_wp2_with fail
          go_quiet (fail)
          go_wp2_with fail
          go_roundw
          case rel => exact ⟨i + 1, by omega, by go_num, HN2, Lib.hid (HO.out.drewN _)⟩
          case measure => simp [intOf]; omega
      · have t4 : (a == (q : Int)) = false := by rw [beq_eq_false_iff_ne]; exact haq
        have HN2 := Lib.hid (HNX.out (by rw [HSM.out, decide_eq_false haq, Bool.false_and]))
        have HAQ := Lib.hid haq
        clear haq
        go_wp2_with fail
        go_quiet (fail)
        go_wp2_with fail
        go_roundw
        case rel => exact ⟨i + 1, by omega, by go_num, HN2, Lib.hid (HO.out.drewN _)⟩
        case measure => simp [intOf]; omega
    have hany : c.waits.any (caSame s) = false := by
      rw [List.any_eq_false]
      intro x hx
      rw [← HE_.out] at hx
      obtain ⟨r, hr, rfl⟩ := List.mem_map.1 hx
      obtain ⟨l, hl, rfl⟩ := List.mem_iff_getElem.1 hr
      rw [hno.out l (by have := HN.out; omega) hl]; simp
    have HE5 : Hid (caErr c s = if 40 ≤ N ∧ caReady c.clk s = false then 4 else 0) := Lib.hid (by rw [HE4.out, hany]; rfl)
    clear hany hno HE4 hc c0
    have key : Calls Tryz.prog 69 #[.pointer (some ⟨p, 0, none⟩), .agg #[.int .i64 q, .int .i64 wd, .slice (some aa) 5 vcap]] wr fun e w' => e = .returned (.bool (caReady c.clk s)) ∧ Own w0 (SdO b1 q wd (.slice (some aa) 5 vcap) * (RcO p vv rows c.me c.clk * R)) w' := by
      have h1 := rcReady_any p c.clk s (.slice (some aa) 5 vcap) (vecErr0 HV_.out).1 HB_.out (fun w' ho' => ⟨(ho'.second.rc_blk.rcb_facts H5.out).2.1, HV.out _ ho'.drop.drop⟩) HO.out
      rw [HQ.out, ← HWD.out] at h1
      exact h1
    have HKEY := Lib.hid key
    clear key HO
    go_wp2_with fail
    refine HKEY.out.mono ?_
    rintro e w3 ⟨rfl, ho⟩
    have HO3 := Lib.hid ho
    obtain ⟨x0, x1, x2, _⟩ := ho.sd
    obtain ⟨c0, hc, c6, hf⟩ := ho.second.rc_blk.rcb_facts H5.out
    rw [HHV.out, ← HN.out] at c6
    obtain ⟨B, hB⟩ : ∃ B, B = caReady c.clk s := ⟨_, rfl⟩
    have HB := Lib.hid hB
    rw [← hB] at HE5 ⊢
    have cq := hc q (by omega)
    rw [← HY.out] at cq
    clear hB ho HKEY
    cases B
    · by_cases h40 : 40 ≤ N
      · have hE3 : caErr c s = 4 := by rw [HE5.out, if_pos ⟨h40, rfl⟩]
        have t4 : decide ((40 : Int) ≤ (N : Int)) = true := decide_eq_true (by omega)
        have H40 := Lib.hid h40; have HE3 := Lib.hid hE3
        clear h40 hE3
        go_wp2
        go_ret2
        exact RcRes.bad HE3.out (by simp) HE_.out HO3.out.drop
      have hE3 : caErr c s = 0 := by rw [HE5.out, if_neg (fun h => h40 h.1)]
      have t4 : decide ((40 : Int) ≤ (N : Int)) = false := decide_eq_false (by omega)
      have H40 := Lib.hid h40; have HE3 := Lib.hid hE3
      clear h40 hE3
      have hot : caOut c s = [] := by unfold caOut; rw [if_pos HE3.out, ← HB.out]; rfl
      have htk : caTake c s = ⟨c.me, c.clk, c.waits ++ [s]⟩ := by unfold caTake; rw [if_pos HE3.out, ← HB.out]; rfl
      have hsl := HO3.out.second.rc_sl
      have HSD : Hid (Own w0 (Sl 59 3 vv rows.length (rows.flatMap sdCells) * (SdO b1 q wd (.slice (some aa) 5 vcap) * (rcBlk p c.me c.clk vv * R))) w3) := Lib.hid (hsl.perm (by ac_rfl))
      have hone : ∀ u ∈ rows.flatMap sdCells, u.oneCell' = true := Own.sds_one (P := fun r => r ∈ rows) (fun r hr => HPP.out r (.inl hr)) HO3.out.drop.drop (fun r hr => hr)
      have HT : Hid (Own w0 (Sl 59 3 (.slice wad N wcap) N (rows.flatMap sdCells) * (SdO b1 q wd (.slice (some aa) 5 vcap) * (rcBlk p c.me c.clk (.slice wad N wcap) * R))) w3) := Lib.hid (by
        have h1 := HSD.out
        rw [HHV.out, ← HN.out] at h1
        exact h1)
      have HOT := Lib.hid hot; have HTK := Lib.hid htk; have HONE := Lib.hid hone
      clear hot htk hone
      clear hsl HSD HO3 c0 hc hf cq
      have hN2 : N < 40 := by have := H40.out; omega
      go_upto_region 21 with fail
      refine wp_region_planH 10 [] [(true, 0), (true, 1), (true, 2), (true, 3), (true, 4), (true, 5), (false, 6), (false, 7), (true, 8), (true, 9)] [10] (fun wS => wS.cell? ⟨p, 6, none⟩ = some (.slice wad N wcap) ∧ wS.cell? ⟨b1, 0, none⟩ = some (.int .i64 q) ∧ wS.cell? ⟨b1, 1, none⟩ = some (.int .i64 wd) ∧ wS.cell? ⟨b1, 2, none⟩ = some (.slice (some aa) 5 vcap)) (by kernel_rfl) (by kernel_rfl) (⟨c6, x0, x1, x2⟩) ?_
      simp only [pickH, pick, List.getElem?_cons_succ, List.getElem?_cons_zero, Option.toList, Option.map_some, List.cons_append, List.nil_append]
      repeat (refine wpPure_step ?_ rfl ?_ ?_; rotate_left; (focus (intro _; first | with_reducible rfl | (go_simp; done) | (go_simp; with_reducible rfl) | rfl)); go_simp)
      refine wpPure_nil ?_
      repeat (refine wpMix_read ?_ rfl ?_ ?_; rotate_left; (focus (intro _ hS; obtain ⟨q1, q2, q3, q4⟩ := hS; first | with_reducible rfl | (go_simp; done) | (go_simp; with_reducible rfl) | rfl)); go_simp)
      refine wpMix_write (fun K hK => ?_)
      go_simp
      obtain ⟨b3, hb_b3⟩ : ∃ zz_, zz_ = (w3).heap.size := ⟨_, rfl⟩
      obtain ⟨w6, hw_w6⟩ : ∃ zz_, zz_ = (w3).alloc (.cells #[.int .i64 q, .int .i64 wd, .slice (some aa) 5 vcap] 59 (0, 0)) := ⟨_, rfl⟩
      have h_HB3 := (HT.out).alloc (.cells #[.int .i64 q, .int .i64 wd, .slice (some aa) 5 vcap] 59 (0, 0))
      rw [← hb_b3, ← hw_w6] at h_HB3
      have HB3 := Lib.hid h_HB3
      clear h_HB3
      rw [← hb_b3, ← hw_w6]
      clear hb_b3 hw_w6
      have HB5 : Hid (Own w0 (Sl 59 3 (.slice wad N wcap) N (rows.flatMap sdCells) * (SdO b1 q wd (.slice (some aa) 5 vcap) * (rcBlk p c.me c.clk (.slice wad N wcap) * (blk b3 (.cells #[.int .i64 q, .int .i64 wd, .slice (some aa) 5 vcap] 59 (0, 0)) * R)))) w6.drew) := Lib.hid (HB3.out.drew.perm (by ac_rfl))
      clear HB3 HT c6 x0 x1 x2
      have c6 : w6.drew.cell? ⟨p, 6, none⟩ = some (.slice wad N wcap) := (HB5.out.third.rcb_facts H5.out).2.2.1
      obtain ⟨x0, x1, x2, _⟩ := HB5.out.second.sd
      refine hK _ _ ⟨⟨c6, x0, x1, x2⟩, ?_⟩
      clear hK K
      go_simp
      refine wpMix_write (fun K hK => ?_)
      have hsrc : Rd w6.drew (.slice (some ⟨b3, 0, none⟩) 1 1) 1 [.int .i64 q, .int .i64 wd, .slice (some aa) 5 vcap] := Rd_one (fun i u hi => by
        rw [HB5.out.fourth.cell]
        match i, hi with
        | 0, hi => exact hi
        | 1, hi => exact hi
        | 2, hi => exact hi) (Nat.le_refl _) (by unfold maxLen; omega)
      refine step_app rfl _ _ 66 rfl 59 3 40 _ info_sd Tryz.underlying66 rfl (by decide) (by rfl) HB5.out (by rfl) (by rfl) hsrc (by intro u hu; simp at hu; rcases hu with rfl | rfl | rfl <;> rfl) (by unfold maxLen; omega) (by omega) ?_
      intro v7 w7 ho7
      obtain ⟨_, _, d6, df⟩ := ho7.third.rcb_facts H5.out
      have df6 := df 6 none
      obtain ⟨x0, x1, x2, _⟩ := ho7.second.sd
      have hput := ho7.third.rcb_put H5.out v7
      have hfin : RcRes w0 R p c s (.slice (some aa) 5 vcap) rows (.returned (.tuple #[.slice none 0 0, .int .i64 0])) (w7.setCell ⟨p, 6, none⟩ v7) := by
        refine ⟨.slice none 0 0, v7, rows ++ [(.slice (some aa) 5 vcap, s)], by rw [HE3.out]; rfl, ?_, ?_, ?_⟩
        · rw [HTK.out, List.map_append, HE_.out]; rfl
        · intro r hr
          rcases List.mem_append.1 hr with hr | hr
          · exact .inl hr
          · exact .inr (List.mem_singleton.1 hr)
        · rw [HOT.out, HTK.out]
          have h1 : Own w0 (SdO b1 q wd (.slice (some aa) 5 vcap) * (blk b3 (.cells #[.int .i64 q, .int .i64 wd, .slice (some aa) 5 vcap] 59 (0, 0)) * (rcBlk p c.me c.clk v7 * (Sl 59 3 v7 (N + 1) (rows.flatMap sdCells ++ [.int .i64 q, .int .i64 wd, .slice (some aa) 5 vcap]) * R)))) (w7.setCell ⟨p, 6, none⟩ v7) := hput.perm (by ac_rfl)
          have h2 : Own w0 (RcO p v7 (rows ++ [(.slice (some aa) 5 vcap, s)]) c.me c.clk * R) (w7.setCell ⟨p, 6, none⟩ v7) := by
            refine h1.drop.drop.perm ?_
            unfold RcO
            rw [List.length_append, List.flatMap_append, show [((.slice (some aa) 5 vcap, s) : SdR)].flatMap sdCells = [.int .i64 q, .int .i64 wd, .slice (some aa) 5 vcap] by simp [sdCells, HQ.out, HWD.out], show rows.length + [((.slice (some aa) 5 vcap, s) : SdR)].length = N + 1 by rw [HN.out]; rfl]
            ac_rfl
          exact h2.sl_nil 3 1
      have HFIN := Lib.hid hfin
      obtain ⟨vad7, vn7, vcap7, hv7⟩ := sl_shape ho7
      subst hv7
      clear hsrc ho7 hput hfin HB5 df
      refine hK _ _ ⟨⟨d6, x0, x1, x2⟩, ?_⟩
      clear hK K
      go_simp
      repeat (refine wpMix_read ?_ rfl ?_ ?_; rotate_left; (focus (intro _ hS; obtain ⟨q1, q2, q3, q4⟩ := hS; first | with_reducible rfl | (go_simp; done) | (go_simp; with_reducible rfl) | rfl)); go_simp)
      refine wpMix_nil ?_
      go_wp2_with fail
      refine NoPanic.normal ?_
      go_wp2_with fail
      go_ret2
      exact HFIN.out
    · have hE3 : caErr c s = 0 := by rw [HE5.out, if_neg (fun h => by simp at h)]
      have hot : caOut c s = s.word :: (caRun c s).2.2 := by unfold caOut; rw [if_pos hE3, ← HB.out]; rfl
      have htk : caTake c s = ⟨c.me, (caRun c s).1, (caRun c s).2.1⟩ := by unfold caTake; rw [if_pos hE3, ← HB.out]; rfl
      have f0 := hf (1 + q) none
      have s0 := HO3.out.second.rc_blk.rcb_bump H5.out (show q < 5 by omega) (y + 1)
      have hbump := caReady_bump HI.out.clk HS.out HB.out.symm
      have hbv := hbump.1
      unfold caBump caAt at hbv
      rw [HQ.out, Int.toNat_natCast, ← HY.out] at hbv
      obtain ⟨D, hD⟩ : ∃ D, D = c.clk.set q (y + 1) := ⟨_, rfl⟩
      rw [← hD] at s0 hbv
      have HS1 := Lib.hid s0.drew
      have HINV : Hid (CwInv c s [wd] D (rows.map (·.2))) := Lib.hid (by
        have h1 := CwInv.start c s
        unfold caBump caAt at h1
        rw [HQ.out, Int.toNat_natCast, ← HY.out, ← hD, ← HE_.out, ← HWD.out] at h1
        exact h1)
      have HRS : Hid (∀ r ∈ rows, sdErr r.2 = 0) := Lib.hid (fun r hr => HI.out.ok _ (by rw [← HE_.out]; exact List.mem_map.2 ⟨_, hr, rfl⟩))
      have q04 : (q : Int) < 5 := by omega
      clear hc hf s0 hbump HO3 x2 c6 c0
      have HD := Lib.hid hD; have HBV := Lib.hid hbv; have HE3 := Lib.hid hE3; have HOT := Lib.hid hot; have HTK := Lib.hid htk
      clear hD hbv hE3 hot htk
      go_upto_region 23 with fail
      refine wp_region_tail 10 (by kernel_rfl) (by kernel_rfl) ?_
      simp only [List.take_succ_cons, List.take_zero, List.drop_succ_cons, List.drop_zero]
      repeat still_step
      refine wpStill_nil ?_
      go_upto_region 24 with fail
      generalize hW2 : (World.drew (World.setCell _ _ _)) = W2 at HS1 ⊢
      clear hW2 cq f0 x1 x0
      obtain ⟨x0, x1, x2, _⟩ := HS1.out.third.sd
      obtain ⟨b7, hb_b7⟩ : ∃ zz_, zz_ = (W2).heap.size := ⟨_, rfl⟩
      obtain ⟨w7, hw_w7⟩ : ∃ zz_, zz_ = (W2).alloc (.cells #[.int .i64 wd] 3 (0, 0)) := ⟨_, rfl⟩
      have h_HO7 := (HS1.out).alloc (.cells #[.int .i64 wd] 3 (0, 0))
      rw [← hb_b7, ← hw_w7] at h_HO7
      have HO7 := Lib.hid h_HO7
      clear h_HO7
      have HX : Hid (RcX w0 R p c s (fun r => r ∈ rows) N true (.slice (some ⟨b7, 0, none⟩) 1 1) w7) := Lib.hid ⟨rows, D, [wd], vv, ⟨HBV.out, HRS.out, fun r hr => hr, by rw [← HN.out]; simp; omega, HINV.out, by
        have h1 := HO7.out.lit1
        have h2 : Own w0 (SdO b1 q wd (.slice (some aa) 5 vcap) * (IntSl (.slice (some ⟨b7, 0, none⟩) 1 1) [wd] * (RcO p vv rows c.me D * R))) w7 := h1.perm (by unfold RcO; ac_rfl)
        exact h2.drop⟩, HN.out.symm, fun h => by cases h⟩
      clear HS1
      go_upto_block 2 with fail
      rw [← hb_b7, ← hw_w7]
      clear hb_b7 hw_w7
      go_cut [9] (fun v9 wx => RcDone w0 R p c s (fun r => r ∈ rows) v9 wx)
      case first =>
        refine rcT_out p c s (fun r => r ∈ rows) (fun r hr => HPP.out r (.inl hr)) N (by omega) _ HX.out ?_
        intros
        go_step
        go_step
        go_meet
        assumption
      case rest =>
      obtain ⟨rows2, vv2, hr1, hr2, hown⟩ := hcut
      have HOW := Lib.hid hown
      have HR1 := Lib.hid hr1
      have HR2 := Lib.hid hr2
      clear hown hr1 hr2
      go_wp2
      go_ret2
      exact RcRes.good HE3.out HOT.out HTK.out HR1.out HR2.out HOW.out
set_option maxRecDepth 100000 in
set_option maxHeartbeats 4000000 in
theorem rcTake_any {w0 w : World} {R : HProp} (p : Nat) (c : Ca) (s : Sd) (cv vv : Value) (rows : List SdR) (hI : CaI c) (he : rows.map (·.2) = c.waits) (hP : ∀ r, (r ∈ rows ∨ r = (cv, s)) → Reads w0 R r.1 r.2.clk) (h : Own w0 (RcO p vv rows c.me c.clk * R) w) :
    Calls Tryz.prog 43 #[.pointer (some ⟨p, 0, none⟩), .agg #[.int .i64 s.who, .int .i64 s.word, cv]] w fun e w' => RcRes w0 R p c s cv rows e w' := by
  by_cases hs : sdErr s = 0
  · exact rcTake_yes p c s cv vv rows hI hs he hP h
  · have hE : caErr c s = sdErr s := by unfold caErr; rw [if_pos hs]
    refine (rcTake_no p c s cv hs ((hP (cv, s) (.inr rfl)).more) h).mono ?_
    rintro e w' ⟨rfl, ho⟩
    rw [hE]
    exact RcRes.bad hE hs he ho
end Go.Proofs.YtdfjbnfdknpahaaGreatDoor
/- Contracts of package net, continued: Cut; packets alike; packets as arguments. -/
namespace Go.Proofs.YtdfjbnfdknpahaaGreatDoor
set_option linter.unusedVariables false
set_option linter.unusedSimpArgs false
open Go.RowKit Go.Maps
end Go.Proofs.YtdfjbnfdknpahaaGreatDoor
