/- HistoryBefore: who is ahead is an order; a beginning of a history is a cut that could have been. -/
import Derived.Test.YtiipldlggjjlnaaMTopTotal7
import Derived.Test.YtiipldlggjjlnaaMTopTotal18
import Derived.Test.YtiipldlggjjlnaaRows
import Derived.ProofKit
import Derived.KernelRfl
namespace Go.Proofs.Ytiipldlggjjlnaa
set_option linter.unusedVariables false
set_option linter.unusedSimpArgs false
open Go.RowKit
def oneH : List Ev := [(0, 2, 1), (1, 3, 1), (2, 1, 0)]
theorem oneH1 : befB oneH 0 1 = true := by decide +kernel
theorem oneH2 : befErr oneH 0 1 = 0 := by decide +kernel
theorem oneH3 : befB oneH 0 2 = false := by decide +kernel
theorem oneH4 : befErr oneH 0 2 = 0 := by decide +kernel
def oneO : Obj := .cells #[.int .i64 0, .int .i64 2, .int .i64 1, .int .i64 1, .int .i64 3, .int .i64 1, .int .i64 2, .int .i64 1, .int .i64 0] 24 (0, 0)
theorem Own.evs_lit {w0 : World} {b : Nat} {R : HProp} (cs : Array Value) (l : List Ev) (n : Nat) (hcs : cs.toList = l.flatMap evCells) (hn : n = l.length) (hg : ∀ e ∈ l, goodEv e) (hm : n ≤ 1000) :
    ReadsE w0 (blk b (.cells cs 24 (0, 0)) * R) (.slice (some ⟨b, 0, none⟩) n n) l := by
  intro w ho
  subst hn
  refine ⟨Rd_one (cs := l.flatMap evCells) (fun i u hu => ?_) (Nat.le_refl _) (by unfold maxLen; omega), hg⟩
  rw [cell_of_heap ho.blk_at.1, ← hu, ← hcs]
  simp
theorem befErr0 {hs : List Ev} {i k : Int} (h : befErr hs i k = 0) : (histR hs).2 = 0 ∧ insideB hs.length i = false ∧ insideB hs.length k = false := by
  unfold befErr at h
  split at h
  · rename_i h1; exact absurd h h1
  rename_i h1
  split at h
  · cases h
  rename_i h2
  refine ⟨by simpa using h1, ?_, ?_⟩
  · cases hh : insideB hs.length i <;> simp_all
  · cases hh : insideB hs.length k <;> simp_all
theorem befErr_mk {hs : List Ev} {i k : Int} (h1 : (histR hs).2 = 0) (h2 : insideB hs.length i = false) (h3 : insideB hs.length k = false) : befErr hs i k = 0 := by
  unfold befErr; rw [if_neg (by simpa using h1), if_neg (by simp [h2, h3])]
def HbR (w : World) (hs : List Ev) (i k j : Int) (a e1 b e2 c e3 d e4 s e5 : Value) (wx : World) : Prop :=
  a = .bool (befB hs i k) ∧ e1 = errV (befErr hs i k) ∧ b = .bool (befB hs k j) ∧ e2 = errV (befErr hs k j) ∧ c = .bool (befB hs i j) ∧ e3 = errV (befErr hs i j) ∧ d = .bool (befB hs k i) ∧ e4 = errV (befErr hs k i) ∧ s = .bool (befB hs i i) ∧ e5 = errV (befErr hs i i) ∧ Own w emp wx
end Go.Proofs.Ytiipldlggjjlnaa
/- moottop's own first check: of two events that are one message, the first is ahead. -/
namespace Go.Proofs.Ytiipldlggjjlnaa
set_option linter.unusedVariables false
set_option linter.unusedSimpArgs false
open Go.RowKit
def oneT : List Ev := [(0, 2, 1), (1, 3, 1)]
theorem oneT1 : befB oneT 0 1 = true := by decide +kernel
theorem oneT2 : befErr oneT 0 1 = 0 := by decide +kernel
def oneTO : Obj := .cells #[.int .i64 0, .int .i64 2, .int .i64 1, .int .i64 1, .int .i64 3, .int .i64 1] 24 (0, 0)
set_option maxRecDepth 100000 in
set_option maxHeartbeats 4000000 in
theorem one_any {w0 w : World} {R : HProp} (h : Own w0 R w) :
    Calls Try.prog 11 #[] w fun e w' => e = .returned (.bool true) ∧ Own w0 R w' := by
  obtain ⟨b1, hb_b1⟩ : ∃ zz_, zz_ = (w).heap.size := ⟨_, rfl⟩
  obtain ⟨w1, hw_w1⟩ : ∃ zz_, zz_ = (w).alloc (oneTO) := ⟨_, rfl⟩
  have h_HO1 := (h).alloc (oneTO)
  rw [← hb_b1, ← hw_w1] at h_HO1
  have HO1 := Lib.hid h_HO1
  clear h_HO1
  have HL1 : Hid (ReadsE w0 (blk b1 oneTO * R) (.slice (some ⟨b1, 0, none⟩) 2 2) oneT) := Lib.hid (Own.evs_lit _ oneT 2 rfl rfl (by intro e he; simp [oneT] at he; rcases he with rfl | rfl <;> (unfold goodEv I64; simp)) (by omega))
  obtain ⟨oo, hoo⟩ : ∃ oo, oo = oneTO := ⟨_, rfl⟩
  rw [← hoo] at HO1 HL1
  unfold oneTO at hoo
  have HOO := hoo
  rw [show oneTO = oo from by rw [hoo]; rfl] at hw_w1
  have H := Lib.hid h
  clear h
  go_enter Try.func11, Try.ntmps11
  go_upto_region 2 with fail
  rw [← HOO]
  rw [← hb_b1, ← hw_w1]
  clear hb_b1 hw_w1
  clear HOO hoo
  go_wp2_with fail
  refine (hBefore_any _ oneT 0 1 (by unfold I64; omega) (by unfold I64; omega) HO1.out HL1.out).mono ?_
  rintro e w2 ⟨rfl, ho⟩
  rw [oneT1, oneT2, errV0]
  have HO2 := Lib.hid ho.drop
  clear ho HO1 HL1
  go_wp2
  go_ret
  exact ⟨rfl, HO2.out⟩
end Go.Proofs.Ytiipldlggjjlnaa
/- TopTotal: who agrees needs no leader, and a leader needs no agreement. -/
namespace Go.Proofs.Ytiipldlggjjlnaa
set_option linter.unusedVariables false
set_option linter.unusedSimpArgs false
open Go.RowKit Go.Maps
theorem word_I64 {x : Int} (h : isWord x = true) : I64 x := by simp [isWord] at h; unfold I64; omega
theorem ttH_good {all : List Int} (h : ∀ x ∈ all, isWord x = true) (c : Nat) : ∀ e ∈ ttH all c, goodEv e := by
  intro e he
  unfold ttH at he
  rcases List.mem_append.1 he with he | he
  · obtain ⟨x, hx, rfl⟩ := List.mem_map.1 (show e ∈ all.map evSay from he)
    have := h x hx
    simp [isWord] at this
    unfold goodEv evSay I64
    simp only
    omega
  · obtain ⟨m, x, rfl, hm, hx⟩ := mem_ttHears he
    have := h x hx
    simp [isWord] at this
    unfold goodEv evHear I64
    simp only
    omega
structure TtF (lead : Bool) (all : List Int) (g : Ag) (l : Ld) : Prop where
  ag : AgN 3 g
  ld : lead = true → TtL all l
  he : lead = false → ∀ k : Nat, k < 3 → (agGet g k).heard = all
noncomputable def ttHear_code : Code := ((Try.f4.body.bind (findBlock 10)).getD .skip)
set_option maxRecDepth 1000000 in
set_option maxHeartbeats 4000000 in
theorem ttHear {Q : Exit → Act → World → Prop} {u0 u3 u4 u5 u6 u7 u9 u11 u14 u15 u16 u17 u18 u19 u20 u21 u22 u23 u24 u25 u26 u28 u29 u30 u31 u32 u33 u34 u35 u36 u37 u38 u39 u40 u41 u42 u43 u44 u45 u46 u47 u48 u49 u50 u51 u52 u53 u54 u55 u56 u57 u58 u59 u60 u61 u62 u63 u64 u65 u66 u67 u68 u69 u70 u71 u72 u73 u74 u75 u76 u77 u78 u79 u80 u81 u82 u83 u84 u85 u86 u87 u88 u89 u90 u91 u92 u93 u94 u95 u96 u97 u98 u99 u100 u101 u102 u103 u104 u105 u106 u107 u108 u109 u110 u111 u112 u113 u114 u115 u116 u117 u118 u119 u120 u121 u122 u123 u124 u125 u126 u127 u128 u129 u130 u131 u132 u133 u134 u135 u136 u137 u138 u139 u140 u141 u142 u143 u144 u145 u146 u147 u148 u149 u150 u151 u152 u153 u154 u155 u156 u157 u158 u159 u160 u161 u162 u163 u164 u165 u166 u167 u168 u169 u170 u171 u172 u173 u174 u175 u176 u177 u178 u179 u180 u181 u182 u183 u184 u185 u186 u187 u188 u189 u190 u191 u192 u193 u194 u195 u196 u197 u198 u199 u200 u201 u202 u203 u204 u205 u206 u207 u208 u209 u210 u211 u212 u213 u214 u215 u216 u217 : Value} {w1 : World} (w : World) (p pl : Nat) (lead : Bool) (cut : Int) (c : Nat) (hc : c = cut.toNat) (all : List Int) (AL : Nat) (hAL : AL = all.length) (h10 : AL ≤ 10) (g : Ag) (l : Ld) (HF : Hid (TtF lead all g l)) (HI : Hid (∀ x ∈ all, I64 x)) (aad : Option Addr) (acp : Nat) (hv : Value) (HO : Hid (Own w (EvSl hv (ttSays all ++ ttPre all c 0 0) * (AgP p g * (LdP pl l * (IntSl (.slice aad AL acp) all * emp)))) w1))
    (hK : ∀ (v6 v12 v27 v28 v29 v30 v151 v152 v153 v154 v155 v156 v157 v158 v159 v160 v161 v162 v163 v164 v165 v166 v167 v168 v169 v170 v171 v172 v173 v174 v175 v176 v177 v178 v179 v180 v181 v182 v183 v184 v185 v186 v187 v188 v189 v190 v191 v192 v193 v194 v195 v196 v197 v198 : Value) (wx : World), (Own w (EvSl v12 (ttH all c) * emp) wx) → Q .normal ⟨List.toArray (u0 :: (.bool lead) :: (.int .i64 cut) :: u3 :: u4 :: u5 :: v6 :: u7 :: (.pointer (some ⟨p, 0, none⟩)) :: u9 :: (.pointer (some ⟨pl, 0, none⟩)) :: u11 :: v12 :: (.slice aad AL acp) :: u14 :: u15 :: u16 :: u17 :: u18 :: u19 :: u20 :: u21 :: u22 :: u23 :: u24 :: u25 :: u26 :: v27 :: v28 :: v29 :: v30 :: u31 :: u32 :: u33 :: u34 :: u35 :: u36 :: u37 :: u38 :: u39 :: u40 :: u41 :: u42 :: u43 :: u44 :: u45 :: u46 :: u47 :: u48 :: u49 :: u50 :: u51 :: u52 :: u53 :: u54 :: u55 :: u56 :: u57 :: u58 :: u59 :: u60 :: u61 :: u62 :: u63 :: u64 :: u65 :: u66 :: u67 :: u68 :: u69 :: u70 :: u71 :: u72 :: u73 :: u74 :: u75 :: u76 :: u77 :: u78 :: u79 :: u80 :: u81 :: u82 :: u83 :: u84 :: u85 :: u86 :: u87 :: u88 :: u89 :: u90 :: u91 :: u92 :: u93 :: u94 :: u95 :: u96 :: u97 :: u98 :: u99 :: u100 :: u101 :: u102 :: u103 :: u104 :: u105 :: u106 :: u107 :: u108 :: u109 :: u110 :: u111 :: u112 :: u113 :: u114 :: u115 :: u116 :: u117 :: u118 :: u119 :: u120 :: u121 :: u122 :: u123 :: u124 :: u125 :: u126 :: u127 :: u128 :: u129 :: u130 :: u131 :: u132 :: u133 :: u134 :: u135 :: u136 :: u137 :: u138 :: u139 :: u140 :: u141 :: u142 :: u143 :: u144 :: u145 :: u146 :: u147 :: u148 :: u149 :: u150 :: v151 :: v152 :: v153 :: v154 :: v155 :: v156 :: v157 :: v158 :: v159 :: v160 :: v161 :: v162 :: v163 :: v164 :: v165 :: v166 :: v167 :: v168 :: v169 :: v170 :: v171 :: v172 :: v173 :: v174 :: v175 :: v176 :: v177 :: v178 :: v179 :: v180 :: v181 :: v182 :: v183 :: v184 :: v185 :: v186 :: v187 :: v188 :: v189 :: v190 :: v191 :: v192 :: v193 :: v194 :: v195 :: v196 :: v197 :: v198 :: u199 :: u200 :: u201 :: u202 :: u203 :: u204 :: u205 :: u206 :: u207 :: u208 :: u209 :: u210 :: u211 :: u212 :: u213 :: u214 :: u215 :: u216 :: u217 :: []), []⟩ wx) :
    Code.wp Try.prog ttHear_code Q ⟨List.toArray (u0 :: (.bool lead) :: (.int .i64 cut) :: u3 :: u4 :: u5 :: u6 :: u7 :: (.pointer (some ⟨p, 0, none⟩)) :: u9 :: (.pointer (some ⟨pl, 0, none⟩)) :: u11 :: (hv) :: (.slice aad AL acp) :: u14 :: u15 :: u16 :: u17 :: u18 :: u19 :: u20 :: u21 :: u22 :: u23 :: u24 :: u25 :: u26 :: (.int .i64 0) :: u28 :: u29 :: u30 :: u31 :: u32 :: u33 :: u34 :: u35 :: u36 :: u37 :: u38 :: u39 :: u40 :: u41 :: u42 :: u43 :: u44 :: u45 :: u46 :: u47 :: u48 :: u49 :: u50 :: u51 :: u52 :: u53 :: u54 :: u55 :: u56 :: u57 :: u58 :: u59 :: u60 :: u61 :: u62 :: u63 :: u64 :: u65 :: u66 :: u67 :: u68 :: u69 :: u70 :: u71 :: u72 :: u73 :: u74 :: u75 :: u76 :: u77 :: u78 :: u79 :: u80 :: u81 :: u82 :: u83 :: u84 :: u85 :: u86 :: u87 :: u88 :: u89 :: u90 :: u91 :: u92 :: u93 :: u94 :: u95 :: u96 :: u97 :: u98 :: u99 :: u100 :: u101 :: u102 :: u103 :: u104 :: u105 :: u106 :: u107 :: u108 :: u109 :: u110 :: u111 :: u112 :: u113 :: u114 :: u115 :: u116 :: u117 :: u118 :: u119 :: u120 :: u121 :: u122 :: u123 :: u124 :: u125 :: u126 :: u127 :: u128 :: u129 :: u130 :: u131 :: u132 :: u133 :: u134 :: u135 :: u136 :: u137 :: u138 :: u139 :: u140 :: u141 :: u142 :: u143 :: u144 :: u145 :: u146 :: u147 :: u148 :: u149 :: u150 :: u151 :: u152 :: u153 :: u154 :: u155 :: u156 :: u157 :: u158 :: u159 :: u160 :: u161 :: u162 :: u163 :: u164 :: u165 :: u166 :: u167 :: u168 :: u169 :: u170 :: u171 :: u172 :: u173 :: u174 :: u175 :: u176 :: u177 :: u178 :: u179 :: u180 :: u181 :: u182 :: u183 :: u184 :: u185 :: u186 :: u187 :: u188 :: u189 :: u190 :: u191 :: u192 :: u193 :: u194 :: u195 :: u196 :: u197 :: u198 :: u199 :: u200 :: u201 :: u202 :: u203 :: u204 :: u205 :: u206 :: u207 :: u208 :: u209 :: u210 :: u211 :: u212 :: u213 :: u214 :: u215 :: u216 :: u217 :: []), []⟩ w1 := by
  conv => arg 2; whnf
  have HK := Lib.hid hK
  clear hK
  have HAL := Lib.hid hAL
  clear hAL
  go_wp2_with fail
  go_loopw [12, 27] (fun hv mv wr => ∃ m : Nat, m ≤ 3 ∧ mv = .int .i64 (m : Int) ∧ Hid (Own w (EvSl hv (ttSays all ++ ttPre all c m 0) * (AgP p g * (LdP pl l * (IntSl (.slice aad AL acp) all * emp)))) wr)) (fun _ mv _ => 3 - (intOf mv).toNat)
  case atStart => exact ⟨0, by omega, rfl, HO⟩
  case round =>
    clear HO
    obtain ⟨m, hm, rfl, HP⟩ := hrel
    by_cases hlt : m < 3
    rotate_left
    · have : m = 3 := by omega
      subst this
      go_wp2_with fail
      apply HK.out
      have h9 := (HP.out.perm (show _ = AgP p g * (LdP pl l * (IntSl (.slice aad AL acp) all * (EvSl u12 (ttSays all ++ ttPre all c 3 0) * emp))) by ac_rfl)).drop.drop.drop
      exact h9
    obtain ⟨hge, hgh⟩ := agHeard_at HF.out.ag hlt
    have hfit := HF.out.ag.fit
    obtain ⟨GL, hGL⟩ : ∃ L, L = agHeard g m := ⟨_, rfl⟩
    have HGE := Lib.hid hge; have HGH := Lib.hid hgh; have HFIT := Lib.hid hfit
    clear hge hgh hfit
    go_wp2_with fail
    refine (agHeard_any p g m HFIT.out (HP.out.perm (star_left_comm _ _ _))).mono ?_
    rintro e w2 ⟨v2, rfl, ho⟩
    rw [HGE.out, errV0]
    rw [← hGL] at ho
    have HO2 := Lib.hid ho
    clear ho
    have HGL := Lib.hid hGL
    clear hGL
    cases lead
    · have hgl : GL = all := by rw [HGL.out, HGH.out]; exact HF.out.he rfl m hlt
      subst hgl
      obtain ⟨bad, bcp, hbv⟩ := Own.int_shape HO2.out
      rw [← HAL.out] at hbv
      subst hbv
      have HR : Hid (∀ w' S, Own w (S * (IntSl (.slice bad AL bcp) GL * (AgP p g * (LdP pl l * (IntSl (.slice aad AL acp) GL * emp))))) w' → Ints w' (.slice bad AL bcp) GL) := Lib.hid (fun w' S h => IntSl_reads HI.out _ h.second)
      have HO3 : Hid (Own w (EvSl u12 (ttSays GL ++ ttPre GL c m 0) * (IntSl (.slice bad AL bcp) GL * (AgP p g * (LdP pl l * (IntSl (.slice aad AL acp) GL * emp))))) w2) := Lib.hid (HO2.out.perm (by ac_rfl))
      obtain ⟨_, _, es, hq1, hq2⟩ := (HR.out _ _ HO3.out).shape
      injection es with es1 es2 es3
      rw [← es3, ← HAL.out] at hq1
      rw [← es3] at hq2
      clear es1 es2 es3 HO2
      go_upto_block 12 with fail
      refine ttEvs w m hlt cut c hc GL AL HAL.out h10 bad bcp hq1 hq2 _ _ HR HO3 ?_
      intros
      rename_i w5 hpp
      rw [HAL.out, ttPre_next GL c hlt, ← HAL.out] at hpp
      have HO5 := Lib.hid (hpp.perm (show _ = IntSl (.slice bad AL bcp) GL * (EvSl _ (ttSays GL ++ ttPre GL c (m + 1) 0) * (AgP p g * (LdP pl l * (IntSl (.slice aad AL acp) GL * emp)))) by ac_rfl)).drop
      clear hpp HO3 HP
      go_wp2_with fail
      go_round
      case rel => exact ⟨m + 1, by omega, by go_num, HO5⟩
      case measure => simp [intOf] <;> omega
    · have hL := HF.out.ld rfl
      obtain ⟨hlh, hle⟩ := hL.heard hlt
      have hlf := hL.inv.fit
      have HO2b : Hid (Own w (LdP pl l * (AgP p g * (EvSl u12 (ttSays all ++ ttPre all c m 0) * (IntSl (.slice aad AL acp) all * emp)))) w2) := Lib.hid (HO2.out.drop.perm (by ac_rfl))
      obtain ⟨gad, gcp, hgv⟩ := Own.int_shape HO2.out
      subst hgv
      have HL := Lib.hid hL; have HLH := Lib.hid hlh; have HLE := Lib.hid hle; have HLF := Lib.hid hlf
      clear hL hlh hle hlf
      clear HO2
      go_wp2_with fail
      refine (ldHeard_any pl l m HLF.out HO2b.out).mono ?_
      rintro e w3 ⟨v3, rfl, ho⟩
      rw [HLE.out, errV0]
      rw [HLH.out] at ho
      obtain ⟨bad, bcp, hbv⟩ := Own.int_shape ho
      rw [← HAL.out] at hbv
      subst hbv
      have HR : Hid (∀ w' S, Own w (S * (IntSl (.slice bad AL bcp) all * (AgP p g * (LdP pl l * (IntSl (.slice aad AL acp) all * emp))))) w' → Ints w' (.slice bad AL bcp) all) := Lib.hid (fun w' S h => IntSl_reads HI.out _ h.second)
      have HO3 : Hid (Own w (EvSl u12 (ttSays all ++ ttPre all c m 0) * (IntSl (.slice bad AL bcp) all * (AgP p g * (LdP pl l * (IntSl (.slice aad AL acp) all * emp))))) w3) := Lib.hid (ho.perm (by ac_rfl))
      obtain ⟨_, _, es, hq1, hq2⟩ := (HR.out _ _ HO3.out).shape
      injection es with es1 es2 es3
      rw [← es3, ← HAL.out] at hq1
      rw [← es3] at hq2
      clear es1 es2 es3 HO2b ho
      go_upto_block 12 with fail
      refine ttEvs w m hlt cut c hc all AL HAL.out h10 bad bcp hq1 hq2 _ _ HR HO3 ?_
      intros
      rename_i w5 hpp
      rw [HAL.out, ttPre_next all c hlt, ← HAL.out] at hpp
      have HO5 := Lib.hid (hpp.perm (show _ = IntSl (.slice bad AL bcp) all * (EvSl _ (ttSays all ++ ttPre all c (m + 1) 0) * (AgP p g * (LdP pl l * (IntSl (.slice aad AL acp) all * emp)))) by ac_rfl)).drop
      clear hpp HO3 HP
      go_wp2_with fail
      go_round
      case rel => exact ⟨m + 1, by omega, by go_num, HO5⟩
      case measure => simp [intOf] <;> omega
noncomputable def ttMain_code : Code := ((Try.f4.body.bind (findBlock 0)).getD .skip)
set_option maxRecDepth 1000000 in
set_option maxHeartbeats 4000000 in
theorem ttMain {Q : Exit → Act → World → Prop} {u2 u3 u4 u5 u6 u7 u9 u11 u15 u16 u17 u18 u19 u20 u21 u22 u23 u24 u25 u26 u27 u28 u29 u30 u31 u32 u33 u34 u35 u36 u37 u38 u39 u40 u41 u42 u43 u44 u45 u46 u47 u48 u49 u50 u51 u52 u53 u54 u55 u56 u57 u58 u59 u60 u61 u62 u63 u64 u65 u66 u67 u68 u69 u70 u71 u72 u73 u74 u75 u76 u77 u78 u79 u80 u81 u82 u83 u84 u85 u86 u87 u88 u89 u90 u91 u92 u93 u94 u95 u96 u97 u98 u99 u100 u101 u102 u103 u104 u105 u106 u107 u108 u109 u110 u111 u112 u113 u114 u115 u116 u117 u118 u119 u120 u121 u122 u123 u124 u125 u126 u127 u128 u129 u130 u131 u132 u133 u134 u135 u136 u137 u138 u139 u140 u141 u142 u143 u144 u145 u146 u147 u148 u149 u150 u151 u152 u153 u154 u155 u156 u157 u158 u159 u160 u161 u162 u163 u164 u165 u166 u167 u168 u169 u170 u171 u172 u173 u174 u175 u176 u177 u178 u179 u180 u181 u182 u183 u184 u185 u186 u187 u188 u189 u190 u191 u192 u193 u194 u195 u196 u197 u198 u199 u200 u201 u202 u203 u204 u205 u206 u207 u208 u209 u210 u211 u212 u213 u214 u215 u216 u217 : Value} {w1 : World} (w : World) (p pl n : Nat) (lead : Bool) (wad : Option Addr) (cap : Nat) (words : List Int) (hn : n = words.length) (hn1 : n ≤ cap) (hn2 : cap ≤ 9223372036854775807) (HW : Hid (Ints w (.slice wad n cap) words)) (hv av : Value) (HO : Hid (TtR w p pl lead 0 hv av w1))
    (hK : ∀ (v6 v12 v13 v14 v15 v16 v17 v18 v19 v20 v21 v22 v50 v51 v52 v53 v54 v55 v56 v57 v58 v59 v60 v61 v62 v63 v64 v65 v66 v67 v68 v69 v70 v71 v72 v73 v74 v75 v76 v77 v78 v79 v80 v81 v82 v83 v84 v85 v86 v87 v88 v89 v90 v91 v92 v93 v94 v95 v96 v97 v98 v99 v100 v101 v102 v103 v104 v105 v106 v107 v108 v109 v110 v111 v112 v113 v114 v115 v116 v117 v118 v119 v120 v121 v122 v123 : Value) (wx : World), (TtR w p pl lead 10 v12 v13 wx) → Q .normal ⟨List.toArray ((.slice wad n cap) :: (.bool lead) :: u2 :: u3 :: u4 :: u5 :: v6 :: u7 :: (.pointer (some ⟨p, 0, none⟩)) :: u9 :: (.pointer (some ⟨pl, 0, none⟩)) :: u11 :: v12 :: v13 :: v14 :: v15 :: v16 :: v17 :: v18 :: v19 :: v20 :: v21 :: v22 :: u23 :: u24 :: u25 :: u26 :: u27 :: u28 :: u29 :: u30 :: u31 :: u32 :: u33 :: u34 :: u35 :: u36 :: u37 :: u38 :: u39 :: u40 :: u41 :: u42 :: u43 :: u44 :: u45 :: u46 :: u47 :: u48 :: u49 :: v50 :: v51 :: v52 :: v53 :: v54 :: v55 :: v56 :: v57 :: v58 :: v59 :: v60 :: v61 :: v62 :: v63 :: v64 :: v65 :: v66 :: v67 :: v68 :: v69 :: v70 :: v71 :: v72 :: v73 :: v74 :: v75 :: v76 :: v77 :: v78 :: v79 :: v80 :: v81 :: v82 :: v83 :: v84 :: v85 :: v86 :: v87 :: v88 :: v89 :: v90 :: v91 :: v92 :: v93 :: v94 :: v95 :: v96 :: v97 :: v98 :: v99 :: v100 :: v101 :: v102 :: v103 :: v104 :: v105 :: v106 :: v107 :: v108 :: v109 :: v110 :: v111 :: v112 :: v113 :: v114 :: v115 :: v116 :: v117 :: v118 :: v119 :: v120 :: v121 :: v122 :: v123 :: u124 :: u125 :: u126 :: u127 :: u128 :: u129 :: u130 :: u131 :: u132 :: u133 :: u134 :: u135 :: u136 :: u137 :: u138 :: u139 :: u140 :: u141 :: u142 :: u143 :: u144 :: u145 :: u146 :: u147 :: u148 :: u149 :: u150 :: u151 :: u152 :: u153 :: u154 :: u155 :: u156 :: u157 :: u158 :: u159 :: u160 :: u161 :: u162 :: u163 :: u164 :: u165 :: u166 :: u167 :: u168 :: u169 :: u170 :: u171 :: u172 :: u173 :: u174 :: u175 :: u176 :: u177 :: u178 :: u179 :: u180 :: u181 :: u182 :: u183 :: u184 :: u185 :: u186 :: u187 :: u188 :: u189 :: u190 :: u191 :: u192 :: u193 :: u194 :: u195 :: u196 :: u197 :: u198 :: u199 :: u200 :: u201 :: u202 :: u203 :: u204 :: u205 :: u206 :: u207 :: u208 :: u209 :: u210 :: u211 :: u212 :: u213 :: u214 :: u215 :: u216 :: u217 :: []), []⟩ wx) :
    Code.wp Try.prog ttMain_code Q ⟨List.toArray ((.slice wad n cap) :: (.bool lead) :: u2 :: u3 :: u4 :: u5 :: u6 :: u7 :: (.pointer (some ⟨p, 0, none⟩)) :: u9 :: (.pointer (some ⟨pl, 0, none⟩)) :: u11 :: (hv) :: (av) :: (.int .i64 0) :: u15 :: u16 :: u17 :: u18 :: u19 :: u20 :: u21 :: u22 :: u23 :: u24 :: u25 :: u26 :: u27 :: u28 :: u29 :: u30 :: u31 :: u32 :: u33 :: u34 :: u35 :: u36 :: u37 :: u38 :: u39 :: u40 :: u41 :: u42 :: u43 :: u44 :: u45 :: u46 :: u47 :: u48 :: u49 :: u50 :: u51 :: u52 :: u53 :: u54 :: u55 :: u56 :: u57 :: u58 :: u59 :: u60 :: u61 :: u62 :: u63 :: u64 :: u65 :: u66 :: u67 :: u68 :: u69 :: u70 :: u71 :: u72 :: u73 :: u74 :: u75 :: u76 :: u77 :: u78 :: u79 :: u80 :: u81 :: u82 :: u83 :: u84 :: u85 :: u86 :: u87 :: u88 :: u89 :: u90 :: u91 :: u92 :: u93 :: u94 :: u95 :: u96 :: u97 :: u98 :: u99 :: u100 :: u101 :: u102 :: u103 :: u104 :: u105 :: u106 :: u107 :: u108 :: u109 :: u110 :: u111 :: u112 :: u113 :: u114 :: u115 :: u116 :: u117 :: u118 :: u119 :: u120 :: u121 :: u122 :: u123 :: u124 :: u125 :: u126 :: u127 :: u128 :: u129 :: u130 :: u131 :: u132 :: u133 :: u134 :: u135 :: u136 :: u137 :: u138 :: u139 :: u140 :: u141 :: u142 :: u143 :: u144 :: u145 :: u146 :: u147 :: u148 :: u149 :: u150 :: u151 :: u152 :: u153 :: u154 :: u155 :: u156 :: u157 :: u158 :: u159 :: u160 :: u161 :: u162 :: u163 :: u164 :: u165 :: u166 :: u167 :: u168 :: u169 :: u170 :: u171 :: u172 :: u173 :: u174 :: u175 :: u176 :: u177 :: u178 :: u179 :: u180 :: u181 :: u182 :: u183 :: u184 :: u185 :: u186 :: u187 :: u188 :: u189 :: u190 :: u191 :: u192 :: u193 :: u194 :: u195 :: u196 :: u197 :: u198 :: u199 :: u200 :: u201 :: u202 :: u203 :: u204 :: u205 :: u206 :: u207 :: u208 :: u209 :: u210 :: u211 :: u212 :: u213 :: u214 :: u215 :: u216 :: u217 :: []), []⟩ w1 := by
  conv => arg 2; whnf
  have HK := Lib.hid hK
  clear hK
  have HN := Lib.hid hn
  clear hn
  go_wp2_with fail
  go_loopw [12, 13, 14] (fun hv av iv wr => ∃ k : Nat, k ≤ n ∧ k ≤ 10 ∧ iv = .int .i64 (k : Int) ∧ Hid (TtR w p pl lead k hv av wr)) (fun _ _ iv _ => 10 - (intOf iv).toNat)
  case atStart => exact ⟨0, Nat.zero_le _, Nat.zero_le _, rfl, HO⟩
  case round =>
    clear HO
    obtain ⟨k, hk, hk2, rfl, HP⟩ := hrel
    by_cases h1 : k < n
    rotate_left
    · have t1 : decide ((k : Int) < (n : Int)) = false := decide_eq_false (by omega)
      go_wp2_with fail
      apply HK.out
      obtain ⟨all, g, l, hs, hl, ho⟩ := HP.out
      exact ⟨all, g, l, hs, by omega, ho⟩
    have t1 : decide ((k : Int) < (n : Int)) = true := decide_eq_true (by omega)
    by_cases h2 : k < 10
    rotate_left
    · go_wp2_with fail
      apply HK.out
      obtain ⟨all, g, l, hs, hl, ho⟩ := HP.out
      exact ⟨all, g, l, hs, by omega, ho⟩
    have hkl : k < words.length := by rw [← HN.out]; exact h1
    obtain ⟨a2, rfl, hc⟩ := HW.out.at_later k hkl
    obtain ⟨x, hx⟩ : ∃ x, x = words[k] := ⟨_, rfl⟩
    rw [← hx] at hc
    obtain ⟨all, g, l, hs, hl, ho⟩ := HP.out
    have HS := Lib.hid hs
    have HO := Lib.hid ho
    have HC := Lib.hid hc; have HX := Lib.hid hx
    clear hc hx
    clear hs ho HP
    go_upto_block 1 with fail
    refine ttStep w p pl k n lead a2 cap h1 hn1 hn2 h2 x HC u12 u13 all g l HS hl HO ?_
    intros
    rename_i w5 hpp
    have HP2 := Lib.hid hpp
    clear hpp HO
    go_wp2_with fail
    go_round
    case rel => exact ⟨k + 1, by omega, by omega, by go_num, HP2⟩
    case measure => simp [intOf] <;> omega
set_option maxRecDepth 100000 in
set_option maxHeartbeats 4000000 in
theorem topTotal_law (w : World) (vw : Value) (words : List Int) (hvw : Ints w vw words) (lead : Bool) (cut : Int) (_hc : I64 cut) :
    Calls Try.prog 4 #[vw, .bool lead, .int .i64 cut] w fun e w' => e = .returned (.bool true) ∧ Below w.heap.size w w' := by
  obtain ⟨wad, cap, rfl, hc1, hc2⟩ := hvw.shape
  obtain ⟨n, hn⟩ : ∃ n, n = words.length := ⟨_, rfl⟩
  rw [← hn] at hvw hc1 ⊢
  obtain ⟨c, hc⟩ : ∃ c, c = cut.toNat := ⟨_, rfl⟩
  have HVW := Lib.hid hvw; have HN := Lib.hid hn
  clear hvw hn
  go_enter Try.func4, Try.ntmps4
  go_wp2_with fail
  refine (one_any (Own.start w)).mono ?_
  rintro e w1 ⟨rfl, ho⟩
  have HO1 := Lib.hid ho
  clear ho
  go_wp2_with fail
  refine (agNew_yes 3 (by rfl) HO1.out).mono ?_
  rintro e w2 ⟨p, rfl, ho⟩
  rw [errV0]
  have HO2 := Lib.hid ho
  clear ho HO1
  go_wp2_with fail
  refine (ldNew_yes 3 (by rfl) HO2.out).mono ?_
  rintro e w3 ⟨pl, rfl, ho⟩
  have HO3 : Hid (TtR w p pl lead 0 (.slice none 0 0) (.slice none 0 0) w3) := Lib.hid ⟨[], agNew 3, ldNew 3, ⟨⟨List.nodup_nil, fun x h => by cases h⟩, fun _ => ⟨TtL.new, TtA.new⟩, fun _ => TtA.new⟩, Nat.zero_le _, by
    have h1 : Own w (IntSl (.slice none 0 0) [] * _) w3 := ho.sl_nil 3 1
    have h2 := h1.evs_nil
    exact h2.perm (by unfold TtO; show _ = _ * (_ * (EvSl (.slice none 0 0) [] * _)); ac_rfl)⟩
  clear ho HO2
  go_upto_block 0 with fail
  refine ttMain w p pl n lead wad cap words HN.out hc1 hc2 HVW _ _ HO3 ?_
  intros
  rename_i w5 hpp
  obtain ⟨all, g, l, hs, hl, ho⟩ := hpp
  have hw : TtW all := ⟨hs.w.1, hs.w.2, hl⟩
  have HI : Hid (∀ x ∈ all, I64 x) := Lib.hid (fun x hx => word_I64 (hs.w.2 x hx))
  have ho2 : Own w (AgP p g * (LdP pl l * (EvSl _ (ttSays all) * (IntSl _ all * emp)))) w5 := ho
  obtain ⟨aad, acp, hav⟩ := Own.int_shape ho2.fourth
  obtain ⟨AL, hAL⟩ : ∃ L, L = all.length := ⟨_, rfl⟩
  rw [← hAL] at hl hav
  subst hav
  obtain ⟨HV, hHV⟩ : ∃ V, V = _ ∧ Own w (AgP p g * (LdP pl l * (EvSl V (ttSays all) * (IntSl (.slice aad AL acp) all * emp)))) w5 := ⟨_, rfl, ho2⟩
  obtain ⟨hv1, ho3⟩ := hHV
  rw [← hv1]
  clear hv1 ho2 ho
  have HO4 := Lib.hid ho3
  have HR : Hid (∀ w' S, Own w (S * (LdP pl l * (EvSl HV (ttSays all) * (IntSl (.slice aad AL acp) all * emp)))) w' → Ints w' (.slice aad AL acp) all) := Lib.hid (fun w' S h => IntSl_reads HI.out _ h.fourth)
  obtain ⟨_, _, es, hq1, hq2⟩ := (HR.out _ _ HO4.out).shape
  injection es with es1 es2 es3
  rw [← es3, ← hAL] at hq1
  rw [← es3] at hq2
  have HAG : Hid (lead = false → TtA all g) := Lib.hid hs.ag
  have HSS := Lib.hid hs
  have HAL := Lib.hid hAL
  clear es1 es2 es3 ho3 HO3 hs hAL
  have HW := Lib.hid hw
  clear hw
  go_upto_block 6 with fail
  refine ttSettle w p lead all AL HAL.out hl aad acp hq1 hq2 g _ HAG HR HO4 ?_
  intros
  rename_i w6 hpp
  obtain ⟨g2, ⟨hg1, hg2⟩, ho6⟩ := hpp
  have HF : Hid (TtF lead all g2 l) := Lib.hid (by
    refine ⟨?_, fun h => (HSS.out.ld h).1, fun h k hk => ?_⟩
    · cases lead
      · obtain ⟨i, hi⟩ := hg2 rfl
        exact hi.ag
      · rw [hg1 rfl]; exact (HSS.out.ld rfl).2.ag
    · obtain ⟨i, hi⟩ := hg2 h
      exact hi.heard hk)
  have HO6 : Hid (Own w (EvSl HV (ttSays all ++ ttPre all c 0 0) * (AgP p g2 * (LdP pl l * (IntSl (.slice aad AL acp) all * emp)))) w6) := Lib.hid (by
    rw [ttPre0, List.take_zero, List.map_nil, List.append_nil]
    exact ho6.perm (by ac_rfl))
  clear ho6 hg1 hg2 HO4
  go_upto_block 10 with fail
  refine ttHear w p pl lead cut c hc all AL HAL.out hl g2 l HF HI aad acp HV HO6 ?_
  intros
  rename_i w7 hpp
  have HO7 := Lib.hid hpp
  clear hpp HO6
  obtain ⟨f1, f2, f3, f4⟩ := ttH_faces HW.out c
  have hgd := ttH_good HW.out.word c
  have HRE := Lib.hid (fun (hv : Value) => (EvSl_reads (w0 := w) (R := emp) (v := hv) hgd))
  have F1 := Lib.hid f1; have F2 := Lib.hid f2; have F3 := Lib.hid f3; have F4 := Lib.hid f4; have HGD := Lib.hid hgd
  clear f1 f2 f3 f4 hgd
  go_wp2_with fail
  refine (facesOf_any _ (ttH all c) HO7.out (HRE.out _)).mono ?_
  rintro e w8 ⟨rfl, ho⟩
  rw [F1.out, F2.out, F3.out, F4.out, errV0]
  obtain ⟨b3, hb_b3⟩ : ∃ zz_, zz_ = (w8).heap.size := ⟨_, rfl⟩
  obtain ⟨w9, hw_w9⟩ : ∃ zz_, zz_ = (w8).alloc (.cells #[.bool true, .bool true, .bool true] 57 (0, 0)) := ⟨_, rfl⟩
  have h_HO9 := (ho).alloc (.cells #[.bool true, .bool true, .bool true] 57 (0, 0))
  rw [← hb_b3, ← hw_w9] at h_HO9
  have HO9 := Lib.hid h_HO9
  clear h_HO9
  have e0 : w9.cell? ⟨b3, 0, none⟩ = some (.bool true) := (Own.cell HO9.out 0).trans rfl
  have e1 : w9.cell? ⟨b3, 1, none⟩ = some (.bool true) := (Own.cell HO9.out 1).trans rfl
  have e2 : w9.cell? ⟨b3, 2, none⟩ = some (.bool true) := (Own.cell HO9.out 2).trans rfl
  clear ho
  go_upto_region 54 with fail
  rw [← hb_b3, ← hw_w9]
  clear hb_b3 hw_w9
  go_wp2
  go_ret
  exact ⟨rfl, HO9.out.below⟩
end Go.Proofs.Ytiipldlggjjlnaa
/- Closed facts on the program as a whole, each asked once for all statements of the seat. -/
namespace Go.Proofs.Ytiipldlggjjlnaa.facts
set_option linter.unusedVariables false
set_option linter.unusedSimpArgs false
open Go.ChangeShapes Go.WideShapes Go.ChangeAt
theorem words_step (w r : List Char) (h : w.all (fun c => c != Char.ofNat 32) = true) : wordsSigns (w ++ Char.ofNat 32 :: r) = w :: wordsSigns r := by
  induction w with
  | nil => rfl
  | cons c w ih =>
    simp only [List.all_cons, Bool.and_eq_true, bne_iff_ne, ne_eq] at h
    rw [List.cons_append]
    have e : wordsSigns (c :: (w ++ Char.ofNat 32 :: r)) = match wordsSigns (w ++ Char.ofNat 32 :: r) with | x :: xs => (c :: x) :: xs | [] => [[c]] := by
      conv => lhs; unfold wordsSigns
      split
      · rename_i h1; cases h1
      · rename_i h1; injection h1 with h2 _; exact absurd h2 h.1
      · rename_i h1; injection h1 with h2 h3; subst h2 h3; rfl
    rw [e, ih (by simpa using h.2)]
theorem make_of (P : Program) (c : List Char) (rest : List (List Char)) (h : behindMainWord (wordsSigns P.initOrder.toList) = c :: rest) : P.make =
  if c == "gc".toList || c == "spec".toList then some .whole else if c == "cut".toList || (c == "finals".toList && rest.head? == some "cut".toList) then some .cut else if c == "carried".toList then some .carried else if P.headLifts.isEmpty then none else some (.lifted P.headLifts) := by
  unfold Program.make
  rw [h]
theorem mayEnter_of (P : Program) (c : List Char) (rest : List (List Char)) (h : behindMainWord (wordsSigns P.initOrder.toList) = c :: rest) : P.mayEnter = (
    ((c == "gc".toList || c == "spec".toList) && (rest.isEmpty || rest.head? == some "stop".toList)) ||
    (c == "carried".toList && rest.take 2 == ["gc".toList, "cut".toList] && !P.laysLater && !P.bearsReflect) ||
    ((stripLifts liftWords (c :: rest)).2.head? == some "cut".toList &&
      ((stripLifts liftWords (c :: rest)).1.contains "finals" || !P.laysLater) && ((stripLifts liftWords (c :: rest)).1.contains "reflectrows" || !P.bearsReflect) &&
      ((stripLifts liftWords (c :: rest)).1.contains "reflectrows" || !(stripLifts liftWords (c :: rest)).1.contains "leanrows") &&
      P.doorFits (stripLifts liftWords (c :: rest)).1)) := by
  unfold Program.mayEnter
  rw [h]
def hw0 : List Char := [Char.ofNat 104, Char.ofNat 97, Char.ofNat 114, Char.ofNat 110, Char.ofNat 101, Char.ofNat 115, Char.ofNat 115]
def hw1 : List Char := [Char.ofNat 48, Char.ofNat 50, Char.ofNat 55, Char.ofNat 53, Char.ofNat 97, Char.ofNat 101, Char.ofNat 97, Char.ofNat 99, Char.ofNat 99, Char.ofNat 57, Char.ofNat 53, Char.ofNat 97, Char.ofNat 51, Char.ofNat 54, Char.ofNat 99, Char.ofNat 55, Char.ofNat 97, Char.ofNat 102, Char.ofNat 49, Char.ofNat 101, Char.ofNat 50, Char.ofNat 97, Char.ofNat 52, Char.ofNat 101, Char.ofNat 54, Char.ofNat 98, Char.ofNat 57, Char.ofNat 51, Char.ofNat 54, Char.ofNat 99, Char.ofNat 52, Char.ofNat 57, Char.ofNat 100, Char.ofNat 54, Char.ofNat 54, Char.ofNat 54, Char.ofNat 99, Char.ofNat 54, Char.ofNat 102, Char.ofNat 50, Char.ofNat 99, Char.ofNat 51, Char.ofNat 97, Char.ofNat 52, Char.ofNat 52, Char.ofNat 99, Char.ofNat 100, Char.ofNat 101, Char.ofNat 100, Char.ofNat 97, Char.ofNat 52, Char.ofNat 98, Char.ofNat 54, Char.ofNat 48, Char.ofNat 102, Char.ofNat 54, Char.ofNat 99, Char.ofNat 55, Char.ofNat 97, Char.ofNat 55, Char.ofNat 56, Char.ofNat 51, Char.ofNat 52, Char.ofNat 55]
def hw2 : List Char := [Char.ofNat 99, Char.ofNat 117, Char.ofNat 116]
def hrest : List Char := [Char.ofNat 97, Char.ofNat 116, Char.ofNat 32, Char.ofNat 109, Char.ofNat 111, Char.ofNat 111, Char.ofNat 116, Char.ofNat 98, Char.ofNat 101, Char.ofNat 108, Char.ofNat 108, Char.ofNat 47, Char.ofNat 109, Char.ofNat 111, Char.ofNat 111, Char.ofNat 116, Char.ofNat 108, Char.ofNat 97, Char.ofNat 119, Char.ofNat 49, Char.ofNat 46, Char.ofNat 67, Char.ofNat 108, Char.ofNat 111, Char.ofNat 99, Char.ofNat 107, Char.ofNat 75, Char.ofNat 110, Char.ofNat 111, Char.ofNat 119, Char.ofNat 115, Char.ofNat 32, Char.ofNat 109, Char.ofNat 111, Char.ofNat 111, Char.ofNat 116, Char.ofNat 98, Char.ofNat 101, Char.ofNat 108, Char.ofNat 108, Char.ofNat 47, Char.ofNat 109, Char.ofNat 111, Char.ofNat 111, Char.ofNat 116, Char.ofNat 116, Char.ofNat 111, Char.ofNat 112, Char.ofNat 46, Char.ofNat 84, Char.ofNat 111, Char.ofNat 112, Char.ofNat 84, Char.ofNat 111, Char.ofNat 116, Char.ofNat 97, Char.ofNat 108]
set_option maxRecDepth 100000 in
theorem init_lit : Try.prog.initOrder = String.ofList [Char.ofNat 104, Char.ofNat 97, Char.ofNat 114, Char.ofNat 110, Char.ofNat 101, Char.ofNat 115, Char.ofNat 115, Char.ofNat 32, Char.ofNat 48, Char.ofNat 50, Char.ofNat 55, Char.ofNat 53, Char.ofNat 97, Char.ofNat 101, Char.ofNat 97, Char.ofNat 99, Char.ofNat 99, Char.ofNat 57, Char.ofNat 53, Char.ofNat 97, Char.ofNat 51, Char.ofNat 54, Char.ofNat 99, Char.ofNat 55, Char.ofNat 97, Char.ofNat 102, Char.ofNat 49, Char.ofNat 101, Char.ofNat 50, Char.ofNat 97, Char.ofNat 52, Char.ofNat 101, Char.ofNat 54, Char.ofNat 98, Char.ofNat 57, Char.ofNat 51, Char.ofNat 54, Char.ofNat 99, Char.ofNat 52, Char.ofNat 57, Char.ofNat 100, Char.ofNat 54, Char.ofNat 54, Char.ofNat 54, Char.ofNat 99, Char.ofNat 54, Char.ofNat 102, Char.ofNat 50, Char.ofNat 99, Char.ofNat 51, Char.ofNat 97, Char.ofNat 52, Char.ofNat 52, Char.ofNat 99, Char.ofNat 100, Char.ofNat 101, Char.ofNat 100, Char.ofNat 97, Char.ofNat 52, Char.ofNat 98, Char.ofNat 54, Char.ofNat 48, Char.ofNat 102, Char.ofNat 54, Char.ofNat 99, Char.ofNat 55, Char.ofNat 97, Char.ofNat 55, Char.ofNat 56, Char.ofNat 51, Char.ofNat 52, Char.ofNat 55, Char.ofNat 32, Char.ofNat 99, Char.ofNat 117, Char.ofNat 116, Char.ofNat 32, Char.ofNat 97, Char.ofNat 116, Char.ofNat 32, Char.ofNat 109, Char.ofNat 111, Char.ofNat 111, Char.ofNat 116, Char.ofNat 98, Char.ofNat 101, Char.ofNat 108, Char.ofNat 108, Char.ofNat 47, Char.ofNat 109, Char.ofNat 111, Char.ofNat 111, Char.ofNat 116, Char.ofNat 108, Char.ofNat 97, Char.ofNat 119, Char.ofNat 49, Char.ofNat 46, Char.ofNat 67, Char.ofNat 108, Char.ofNat 111, Char.ofNat 99, Char.ofNat 107, Char.ofNat 75, Char.ofNat 110, Char.ofNat 111, Char.ofNat 119, Char.ofNat 115, Char.ofNat 32, Char.ofNat 109, Char.ofNat 111, Char.ofNat 111, Char.ofNat 116, Char.ofNat 98, Char.ofNat 101, Char.ofNat 108, Char.ofNat 108, Char.ofNat 47, Char.ofNat 109, Char.ofNat 111, Char.ofNat 111, Char.ofNat 116, Char.ofNat 116, Char.ofNat 111, Char.ofNat 112, Char.ofNat 46, Char.ofNat 84, Char.ofNat 111, Char.ofNat 112, Char.ofNat 84, Char.ofNat 111, Char.ofNat 116, Char.ofNat 97, Char.ofNat 108] := by kernel_rfl
set_option maxRecDepth 100000 in
theorem init_chars : Try.prog.initOrder.toList = [Char.ofNat 104, Char.ofNat 97, Char.ofNat 114, Char.ofNat 110, Char.ofNat 101, Char.ofNat 115, Char.ofNat 115, Char.ofNat 32, Char.ofNat 48, Char.ofNat 50, Char.ofNat 55, Char.ofNat 53, Char.ofNat 97, Char.ofNat 101, Char.ofNat 97, Char.ofNat 99, Char.ofNat 99, Char.ofNat 57, Char.ofNat 53, Char.ofNat 97, Char.ofNat 51, Char.ofNat 54, Char.ofNat 99, Char.ofNat 55, Char.ofNat 97, Char.ofNat 102, Char.ofNat 49, Char.ofNat 101, Char.ofNat 50, Char.ofNat 97, Char.ofNat 52, Char.ofNat 101, Char.ofNat 54, Char.ofNat 98, Char.ofNat 57, Char.ofNat 51, Char.ofNat 54, Char.ofNat 99, Char.ofNat 52, Char.ofNat 57, Char.ofNat 100, Char.ofNat 54, Char.ofNat 54, Char.ofNat 54, Char.ofNat 99, Char.ofNat 54, Char.ofNat 102, Char.ofNat 50, Char.ofNat 99, Char.ofNat 51, Char.ofNat 97, Char.ofNat 52, Char.ofNat 52, Char.ofNat 99, Char.ofNat 100, Char.ofNat 101, Char.ofNat 100, Char.ofNat 97, Char.ofNat 52, Char.ofNat 98, Char.ofNat 54, Char.ofNat 48, Char.ofNat 102, Char.ofNat 54, Char.ofNat 99, Char.ofNat 55, Char.ofNat 97, Char.ofNat 55, Char.ofNat 56, Char.ofNat 51, Char.ofNat 52, Char.ofNat 55, Char.ofNat 32, Char.ofNat 99, Char.ofNat 117, Char.ofNat 116, Char.ofNat 32, Char.ofNat 97, Char.ofNat 116, Char.ofNat 32, Char.ofNat 109, Char.ofNat 111, Char.ofNat 111, Char.ofNat 116, Char.ofNat 98, Char.ofNat 101, Char.ofNat 108, Char.ofNat 108, Char.ofNat 47, Char.ofNat 109, Char.ofNat 111, Char.ofNat 111, Char.ofNat 116, Char.ofNat 108, Char.ofNat 97, Char.ofNat 119, Char.ofNat 49, Char.ofNat 46, Char.ofNat 67, Char.ofNat 108, Char.ofNat 111, Char.ofNat 99, Char.ofNat 107, Char.ofNat 75, Char.ofNat 110, Char.ofNat 111, Char.ofNat 119, Char.ofNat 115, Char.ofNat 32, Char.ofNat 109, Char.ofNat 111, Char.ofNat 111, Char.ofNat 116, Char.ofNat 98, Char.ofNat 101, Char.ofNat 108, Char.ofNat 108, Char.ofNat 47, Char.ofNat 109, Char.ofNat 111, Char.ofNat 111, Char.ofNat 116, Char.ofNat 116, Char.ofNat 111, Char.ofNat 112, Char.ofNat 46, Char.ofNat 84, Char.ofNat 111, Char.ofNat 112, Char.ofNat 84, Char.ofNat 111, Char.ofNat 116, Char.ofNat 97, Char.ofNat 108] := by rw [init_lit, String.toList_ofList]
set_option maxRecDepth 100000 in
theorem init_split : [Char.ofNat 104, Char.ofNat 97, Char.ofNat 114, Char.ofNat 110, Char.ofNat 101, Char.ofNat 115, Char.ofNat 115, Char.ofNat 32, Char.ofNat 48, Char.ofNat 50, Char.ofNat 55, Char.ofNat 53, Char.ofNat 97, Char.ofNat 101, Char.ofNat 97, Char.ofNat 99, Char.ofNat 99, Char.ofNat 57, Char.ofNat 53, Char.ofNat 97, Char.ofNat 51, Char.ofNat 54, Char.ofNat 99, Char.ofNat 55, Char.ofNat 97, Char.ofNat 102, Char.ofNat 49, Char.ofNat 101, Char.ofNat 50, Char.ofNat 97, Char.ofNat 52, Char.ofNat 101, Char.ofNat 54, Char.ofNat 98, Char.ofNat 57, Char.ofNat 51, Char.ofNat 54, Char.ofNat 99, Char.ofNat 52, Char.ofNat 57, Char.ofNat 100, Char.ofNat 54, Char.ofNat 54, Char.ofNat 54, Char.ofNat 99, Char.ofNat 54, Char.ofNat 102, Char.ofNat 50, Char.ofNat 99, Char.ofNat 51, Char.ofNat 97, Char.ofNat 52, Char.ofNat 52, Char.ofNat 99, Char.ofNat 100, Char.ofNat 101, Char.ofNat 100, Char.ofNat 97, Char.ofNat 52, Char.ofNat 98, Char.ofNat 54, Char.ofNat 48, Char.ofNat 102, Char.ofNat 54, Char.ofNat 99, Char.ofNat 55, Char.ofNat 97, Char.ofNat 55, Char.ofNat 56, Char.ofNat 51, Char.ofNat 52, Char.ofNat 55, Char.ofNat 32, Char.ofNat 99, Char.ofNat 117, Char.ofNat 116, Char.ofNat 32, Char.ofNat 97, Char.ofNat 116, Char.ofNat 32, Char.ofNat 109, Char.ofNat 111, Char.ofNat 111, Char.ofNat 116, Char.ofNat 98, Char.ofNat 101, Char.ofNat 108, Char.ofNat 108, Char.ofNat 47, Char.ofNat 109, Char.ofNat 111, Char.ofNat 111, Char.ofNat 116, Char.ofNat 108, Char.ofNat 97, Char.ofNat 119, Char.ofNat 49, Char.ofNat 46, Char.ofNat 67, Char.ofNat 108, Char.ofNat 111, Char.ofNat 99, Char.ofNat 107, Char.ofNat 75, Char.ofNat 110, Char.ofNat 111, Char.ofNat 119, Char.ofNat 115, Char.ofNat 32, Char.ofNat 109, Char.ofNat 111, Char.ofNat 111, Char.ofNat 116, Char.ofNat 98, Char.ofNat 101, Char.ofNat 108, Char.ofNat 108, Char.ofNat 47, Char.ofNat 109, Char.ofNat 111, Char.ofNat 111, Char.ofNat 116, Char.ofNat 116, Char.ofNat 111, Char.ofNat 112, Char.ofNat 46, Char.ofNat 84, Char.ofNat 111, Char.ofNat 112, Char.ofNat 84, Char.ofNat 111, Char.ofNat 116, Char.ofNat 97, Char.ofNat 108] = hw0 ++ Char.ofNat 32 :: (hw1 ++ Char.ofNat 32 :: (hw2 ++ Char.ofNat 32 :: hrest)) := by kernel_rfl
theorem init_words : wordsSigns Try.prog.initOrder.toList = hw0 :: hw1 :: hw2 :: wordsSigns hrest := by
  rw [init_chars.trans init_split]
  rw [words_step hw0 _ (by kernel_rfl)]
  rw [words_step hw1 _ (by kernel_rfl)]
  rw [words_step hw2 _ (by kernel_rfl)]
theorem behind (rs : List (List Char)) : behindMainWord (hw0 :: hw1 :: hw2 :: rs) = hw2 :: rs := by kernel_rfl
theorem strip (rs : List (List Char)) : stripLifts liftWords (hw2 :: rs) = ([], hw2 :: rs) := by kernel_rfl
theorem laysLater : Try.prog.laysLater = false := by kernel_rfl
theorem bearsReflect : Try.prog.bearsReflect = false := by kernel_rfl
theorem doorFits : Try.prog.doorFits [] = true := by kernel_rfl
theorem headLifts : Try.prog.headLifts = [] := by
  unfold Program.headLifts; rw [init_words, behind, strip]; generalize wordsSigns hrest = rs; kernel_rfl
theorem mayEnter : Try.prog.mayEnter = true := by
  rw [mayEnter_of Try.prog _ _ (by rw [init_words, behind]), strip, laysLater, bearsReflect, doorFits]; generalize wordsSigns hrest = rs; kernel_rfl
theorem lifts_eq : Try.prog.liftsFinal = false := by
  unfold Program.liftsFinal; rw [init_words, behind, headLifts]; generalize wordsSigns hrest = rs; kernel_rfl
theorem make_eq : (Try.prog.make == some .cut) = true := by
  rw [make_of Try.prog _ _ (by rw [init_words, behind]), headLifts]; generalize wordsSigns hrest = rs; kernel_rfl
theorem laidOut : laidOutB Try.prog = true := by kernel_rfl
theorem mapsRowed : mapsRowed Try.prog = true := by kernel_rfl
theorem stops : (Try.prog.stops == []) = true := by kernel_rfl
theorem stopKnobs : (Try.prog.stopKnobs == []) = true := by kernel_rfl
theorem stopsHeard : Try.prog.stopsHeard = true := by kernel_rfl
theorem own : ownKnob Try.prog.godebug = none := by kernel_rfl
theorem and_mk {a b : Bool} (ha : a = true) (hb : b = true) : (a && b) = true := by rw [ha, hb]; rfl
end Go.Proofs.Ytiipldlggjjlnaa.facts
