/- TopTotal: all words. -/
import Derived.Test.YtiipldlggjjlnaaMTopTotal17
import Derived.Test.YtiipldlggjjlnaaMTopTotal7
namespace Go.Proofs.Ytiipldlggjjlnaa
set_option linter.unusedVariables false
set_option linter.unusedSimpArgs false
open Go.RowKit Go.Maps
structure TtSt (lead : Bool) (all : List Int) (g : Ag) (l : Ld) : Prop where
  w : all.Nodup ∧ ∀ x ∈ all, isWord x = true
  ld : lead = true → TtL all l ∧ TtA [] g
  ag : lead = false → TtA all g
def TtO (p pl : Nat) (all : List Int) (g : Ag) (l : Ld) (hv av : Value) : HProp := AgP p g * (LdP pl l * (EvSl hv (ttSays all) * (IntSl av all * emp)))
def TtR (w : World) (p pl : Nat) (lead : Bool) (k : Nat) (hv av : Value) (wx : World) : Prop := ∃ (all : List Int) (g : Ag) (l : Ld), TtSt lead all g l ∧ all.length ≤ k ∧ Own w (TtO p pl all g l hv av) wx
theorem TtSt.snoc {lead : Bool} {all : List Int} {g g2 : Ag} {l l2 : Ld} (h : TtSt lead all g l) {x : Int} (hx : isWord x = true) (hn : x ∉ all) (h1 : lead = true → TtL (all ++ [x]) l2 ∧ TtA [] g2) (h2 : lead = false → TtA (all ++ [x]) g2) : TtSt lead (all ++ [x]) g2 l2 := by
  refine ⟨⟨?_, ?_⟩, h1, h2⟩
  · rw [List.nodup_append]
    exact ⟨h.w.1, by simp, fun a ha b hb e => by simp at hb; subst hb; exact hn (e ▸ ha)⟩
  · intro y hy
    rcases List.mem_append.1 hy with hy | hy
    · exact h.w.2 y hy
    · simp at hy; rw [hy]; exact hx
theorem ttSays_snoc (all : List Int) (x : Int) : ttSays (all ++ [x]) = ttSays all ++ [evSay x] := by unfold ttSays; rw [List.map_append]; rfl
theorem tt_len (all : List Int) : (ttSays all).length = all.length := by unfold ttSays; rw [List.length_map]
theorem sl_shape9 {w0 w : World} {ty : TypeId} {size : Nat} {v : Value} {n : Nat} {xs : List Value} {R : HProp} (h : Own w0 (Sl ty size v n xs * R) w) : ∃ a b c, v = .slice a b c := by
  obtain ⟨a, c, e, _⟩ := Own.rd h
  exact ⟨a, _, c, e⟩
noncomputable def ttStep_code : Code := ((Try.f4.body.bind (findBlock 1)).getD .skip)
set_option maxRecDepth 1000000 in
set_option maxHeartbeats 4000000 in
theorem ttStep {Q : Exit → Act → World → Prop} {u2 u3 u4 u5 u6 u7 u9 u11 u15 u16 u17 u18 u19 u20 u21 u22 u23 u24 u25 u26 u27 u28 u29 u30 u31 u32 u33 u34 u35 u36 u37 u38 u39 u40 u41 u42 u43 u44 u45 u46 u47 u48 u49 u50 u51 u52 u53 u54 u55 u56 u57 u58 u59 u60 u61 u62 u63 u64 u65 u66 u67 u68 u69 u70 u71 u72 u73 u74 u75 u76 u77 u78 u79 u80 u81 u82 u83 u84 u85 u86 u87 u88 u89 u90 u91 u92 u93 u94 u95 u96 u97 u98 u99 u100 u101 u102 u103 u104 u105 u106 u107 u108 u109 u110 u111 u112 u113 u114 u115 u116 u117 u118 u119 u120 u121 u122 u123 u124 u125 u126 u127 u128 u129 u130 u131 u132 u133 u134 u135 u136 u137 u138 u139 u140 u141 u142 u143 u144 u145 u146 u147 u148 u149 u150 u151 u152 u153 u154 u155 u156 u157 u158 u159 u160 u161 u162 u163 u164 u165 u166 u167 u168 u169 u170 u171 u172 u173 u174 u175 u176 u177 u178 u179 u180 u181 u182 u183 u184 u185 u186 u187 u188 u189 u190 u191 u192 u193 u194 u195 u196 u197 u198 u199 u200 u201 u202 u203 u204 u205 u206 u207 u208 u209 u210 u211 u212 u213 u214 u215 u216 u217 : Value} {w1 : World} (w : World) (p pl i n : Nat) (lead : Bool) (a2 : Addr) (cap : Nat) (hi : i < n) (hn1 : n ≤ cap) (hn2 : cap ≤ 9223372036854775807) (hi10 : i < 10) (x : Int) (HC : Hid (∀ (w' : World) P, Own w P w' → w'.cell? (a2.add i) = some (.int .i64 x))) (hv av : Value) (all : List Int) (g : Ag) (l : Ld) (HS : Hid (TtSt lead all g l)) (hal : all.length ≤ i) (HO : Hid (Own w (TtO p pl all g l hv av) w1))
    (hK : ∀ (v6 v12 v13 v15 v16 v17 v18 v19 v20 v21 v22 v60 v61 v62 v63 v64 v65 v66 v67 v68 v69 v70 v71 v72 v73 v74 v75 v76 v77 v78 v79 v80 v81 v82 v83 v84 v85 v86 v87 v88 v89 v90 v91 v92 v93 v94 v95 v96 v97 v98 v99 v100 v101 v102 v103 v104 v105 v106 v107 v108 v109 v110 v111 v112 v113 v114 v115 v116 v117 v118 v119 v120 v121 v122 v123 : Value) (wx : World), (TtR w p pl lead (i + 1) v12 v13 wx) → Q .normal ⟨List.toArray ((.slice (some a2) n cap) :: (.bool lead) :: u2 :: u3 :: u4 :: u5 :: v6 :: u7 :: (.pointer (some ⟨p, 0, none⟩)) :: u9 :: (.pointer (some ⟨pl, 0, none⟩)) :: u11 :: v12 :: v13 :: (.int .i64 (i : Int)) :: v15 :: v16 :: v17 :: v18 :: v19 :: v20 :: v21 :: v22 :: u23 :: u24 :: u25 :: u26 :: u27 :: u28 :: u29 :: u30 :: u31 :: u32 :: u33 :: u34 :: u35 :: u36 :: u37 :: u38 :: u39 :: u40 :: u41 :: u42 :: u43 :: u44 :: u45 :: u46 :: u47 :: u48 :: u49 :: u50 :: u51 :: u52 :: u53 :: u54 :: u55 :: u56 :: u57 :: u58 :: u59 :: v60 :: v61 :: v62 :: v63 :: v64 :: v65 :: v66 :: v67 :: v68 :: v69 :: v70 :: v71 :: v72 :: v73 :: v74 :: v75 :: v76 :: v77 :: v78 :: v79 :: v80 :: v81 :: v82 :: v83 :: v84 :: v85 :: v86 :: v87 :: v88 :: v89 :: v90 :: v91 :: v92 :: v93 :: v94 :: v95 :: v96 :: v97 :: v98 :: v99 :: v100 :: v101 :: v102 :: v103 :: v104 :: v105 :: v106 :: v107 :: v108 :: v109 :: v110 :: v111 :: v112 :: v113 :: v114 :: v115 :: v116 :: v117 :: v118 :: v119 :: v120 :: v121 :: v122 :: v123 :: u124 :: u125 :: u126 :: u127 :: u128 :: u129 :: u130 :: u131 :: u132 :: u133 :: u134 :: u135 :: u136 :: u137 :: u138 :: u139 :: u140 :: u141 :: u142 :: u143 :: u144 :: u145 :: u146 :: u147 :: u148 :: u149 :: u150 :: u151 :: u152 :: u153 :: u154 :: u155 :: u156 :: u157 :: u158 :: u159 :: u160 :: u161 :: u162 :: u163 :: u164 :: u165 :: u166 :: u167 :: u168 :: u169 :: u170 :: u171 :: u172 :: u173 :: u174 :: u175 :: u176 :: u177 :: u178 :: u179 :: u180 :: u181 :: u182 :: u183 :: u184 :: u185 :: u186 :: u187 :: u188 :: u189 :: u190 :: u191 :: u192 :: u193 :: u194 :: u195 :: u196 :: u197 :: u198 :: u199 :: u200 :: u201 :: u202 :: u203 :: u204 :: u205 :: u206 :: u207 :: u208 :: u209 :: u210 :: u211 :: u212 :: u213 :: u214 :: u215 :: u216 :: u217 :: []), []⟩ wx) :
    Code.wp Try.prog ttStep_code Q ⟨List.toArray ((.slice (some a2) n cap) :: (.bool lead) :: u2 :: u3 :: u4 :: u5 :: u6 :: u7 :: (.pointer (some ⟨p, 0, none⟩)) :: u9 :: (.pointer (some ⟨pl, 0, none⟩)) :: u11 :: (hv) :: (av) :: (.int .i64 (i : Int)) :: u15 :: u16 :: u17 :: u18 :: u19 :: u20 :: u21 :: u22 :: u23 :: u24 :: u25 :: u26 :: u27 :: u28 :: u29 :: u30 :: u31 :: u32 :: u33 :: u34 :: u35 :: u36 :: u37 :: u38 :: u39 :: u40 :: u41 :: u42 :: u43 :: u44 :: u45 :: u46 :: u47 :: u48 :: u49 :: u50 :: u51 :: u52 :: u53 :: u54 :: u55 :: u56 :: u57 :: u58 :: u59 :: u60 :: u61 :: u62 :: u63 :: u64 :: u65 :: u66 :: u67 :: u68 :: u69 :: u70 :: u71 :: u72 :: u73 :: u74 :: u75 :: u76 :: u77 :: u78 :: u79 :: u80 :: u81 :: u82 :: u83 :: u84 :: u85 :: u86 :: u87 :: u88 :: u89 :: u90 :: u91 :: u92 :: u93 :: u94 :: u95 :: u96 :: u97 :: u98 :: u99 :: u100 :: u101 :: u102 :: u103 :: u104 :: u105 :: u106 :: u107 :: u108 :: u109 :: u110 :: u111 :: u112 :: u113 :: u114 :: u115 :: u116 :: u117 :: u118 :: u119 :: u120 :: u121 :: u122 :: u123 :: u124 :: u125 :: u126 :: u127 :: u128 :: u129 :: u130 :: u131 :: u132 :: u133 :: u134 :: u135 :: u136 :: u137 :: u138 :: u139 :: u140 :: u141 :: u142 :: u143 :: u144 :: u145 :: u146 :: u147 :: u148 :: u149 :: u150 :: u151 :: u152 :: u153 :: u154 :: u155 :: u156 :: u157 :: u158 :: u159 :: u160 :: u161 :: u162 :: u163 :: u164 :: u165 :: u166 :: u167 :: u168 :: u169 :: u170 :: u171 :: u172 :: u173 :: u174 :: u175 :: u176 :: u177 :: u178 :: u179 :: u180 :: u181 :: u182 :: u183 :: u184 :: u185 :: u186 :: u187 :: u188 :: u189 :: u190 :: u191 :: u192 :: u193 :: u194 :: u195 :: u196 :: u197 :: u198 :: u199 :: u200 :: u201 :: u202 :: u203 :: u204 :: u205 :: u206 :: u207 :: u208 :: u209 :: u210 :: u211 :: u212 :: u213 :: u214 :: u215 :: u216 :: u217 :: []), []⟩ w1 := by
  conv => arg 2; whnf
  have HK := Lib.hid hK
  clear hK
  have i0 : (0 : Int) ≤ (i : Int) := by omega
  have iN : (i : Int) < (n : Int) := by omega
  have c0 := HC.out _ _ HO.out
  cases lead
  · have hA := HS.out.ag rfl
    obtain ⟨E, hE⟩ : ∃ E, E = agSayErr g x := ⟨_, rfl⟩
    by_cases h0 : E = 0
    rotate_left
    · obtain ⟨mm, hmm⟩ := errV_some h0
      have hgg : agSay g x = g := by unfold agSay; rw [if_neg (by rw [← hE]; exact h0)]
      have HA := Lib.hid hA; have HE := Lib.hid hE; have H0 := Lib.hid h0; have HMM := Lib.hid hmm; have HGG := Lib.hid hgg
      clear hA hE h0 hmm hgg
      go_wp2_with fail
      refine (agSay_any p g x (HO.out.perm (show _ = AgP p g * (LdP pl l * (EvSl hv (ttSays all) * (IntSl av all * emp))) from rfl))).mono ?_
      rintro e w2 ⟨rfl, ho⟩
      rw [HGG.out] at ho
      rw [← HE.out, HMM.out]
      have HO2 := Lib.hid ho
      clear ho c0
      go_wp2_with fail
      apply HK.out
      exact ⟨all, g, l, HS.out, by omega, HO2.out⟩
    · subst h0
      have hM := hA.say hE.symm
      have hal30 : all.length ≤ 30 := by omega
      obtain ⟨hw1, hw2⟩ := agSayErr0 hE.symm
      have HA := Lib.hid hA; have HM := Lib.hid hM; have HW1 := Lib.hid hw1; have HW2 := Lib.hid hw2
      clear hA hM hw1 hw2
      have HE := Lib.hid hE
      clear hE
      go_wp2_with fail
      refine (agSay_any p g x (HO.out.perm (show _ = AgP p g * (LdP pl l * (EvSl hv (ttSays all) * (IntSl av all * emp))) from rfl))).mono ?_
      rintro e w2 ⟨rfl, ho⟩
      rw [← HE.out, errV0]
      have HO2 := Lib.hid ho
      clear ho c0
      go_upto_block 4 with fail
      refine ttProp w p i n a2 cap hi hn1 hn2 all x hal30 (agSay g x) _ HM HC HO2 ?_
      intros
      rename_i w3 hpp
      obtain ⟨g2, hg2, ho3⟩ := hpp
      have HO4 := Lib.hid ho3
      have HG2 := Lib.hid hg2
      clear ho3 hg2 HO2
      obtain ⟨aad, acp, hav⟩ := Own.int_shape (HO4.out.fourth)
      subst hav
      obtain ⟨AL, hAL⟩ : ∃ L, L = all.length := ⟨_, rfl⟩
      have HO5 : Hid (Own w (Sl 3 1 (.slice aad AL acp) AL (all.map (Value.int .i64)) * (AgP p g2 * (LdP pl l * (EvSl hv (ttSays all) * emp)))) w3) := Lib.hid (HO4.out.perm (by unfold IntSl; rw [← hAL]; ac_rfl))
      have halL : AL ≤ i := by rw [hAL]; exact hal
      rw [← hAL]
      have HALL := Lib.hid hAL
      have c0 := HC.out _ _ HO5.out
      clear hAL hal HO4
      go_upto_region 30 with (at_builtin; refine wpList_app rfl _ _ 25 rfl 3 1 8 _ int_info Try.underlying25 rfl (by decide) rfl (HO5.out.alloc' _) rfl (by rfl) (Rd_lit (by simp) (by unfold maxLen; omega)) (by intro u hu; simp at hu; subst hu; rfl) (by unfold maxLen; omega) (by omega) ?_; intro v5 w5 ho5; have HO6 := Lib.hid ho5; clear ho5 c0)
      have e1 : Sl 3 1 v5 (AL + 1) (all.map (Value.int .i64) ++ [.int .i64 x]) = IntSl v5 (all ++ [x]) := by
        unfold IntSl
        rw [List.length_append, List.map_append, ← HALL.out]
        rfl
      have ho6 := HO6.out
      rw [e1] at ho6
      obtain ⟨had, hcp, hl3, hhv⟩ := sl_shape9 (ho6.perm (show _ = Sl 24 3 hv (ttSays all).length ((ttSays all).flatMap evCells) * (IntSl v5 (all ++ [x]) * (AgP p g2 * (LdP pl l * emp))) by unfold EvSl; ac_rfl))
      have HO7 : Hid (Own w (Sl 24 3 hv AL ((ttSays all).flatMap evCells) * (IntSl v5 (all ++ [x]) * (AgP p g2 * (LdP pl l * emp)))) w5) := Lib.hid (ho6.perm (by unfold EvSl; rw [tt_len, ← HALL.out]; ac_rfl))
      have c0 := HC.out _ _ HO7.out
      clear ho6 HO6 HO5 e1
      subst hhv
      go_upto_region 31 with (at_builtin; refine wpList_app rfl _ _ 22 rfl 24 3 24 _ info_ev Try.underlying22 rfl (by decide) rfl (HO7.out.alloc' _) rfl (by rfl) (Rd_lit (by simp) (by unfold maxLen; omega)) (by intro u hu; simp at hu; rcases hu with rfl | rfl | rfl <;> rfl) (by unfold maxLen; omega) (by omega) ?_; intro v6 w6 ho6; have HO8 := Lib.hid ho6; clear ho6 c0)
      have e2 : Sl 24 3 v6 (AL + 1) ((ttSays all).flatMap evCells ++ [.int .i64 4, .int .i64 2, .int .i64 x]) = EvSl v6 (ttSays (all ++ [x])) := by
        unfold EvSl
        rw [ttSays_snoc, List.length_append, tt_len, ← HALL.out, List.flatMap_append]
        rfl
      have ho8 := HO8.out
      rw [e2] at ho8
      have hlen : (all ++ [x]).length ≤ i + 1 := by rw [List.length_append, ← HALL.out]; simp; omega
      apply HK.out
      exact ⟨all ++ [x], g2, l, HS.out.snoc HW1.out HG2.out.nw (fun h => by cases h) (fun _ => HG2.out.done), hlen, ho8.perm (by unfold TtO; ac_rfl)⟩
  · have hL := HS.out.ld rfl
    have hgA := hL.2
    have hL := hL.1
    obtain ⟨E, hE⟩ : ∃ E, E = ldSayErr l x := ⟨_, rfl⟩
    by_cases h0 : E = 0
    rotate_left
    · obtain ⟨mm, hmm⟩ := errV_some h0
      have hgg : ldSay l x = l := by unfold ldSay; rw [if_neg (by rw [← hE]; exact h0)]
      obtain ⟨o1, ho1⟩ : ∃ o, o = ldSayOut l x := ⟨_, rfl⟩
      have hfit := hL.inv.fit
      have HL := Lib.hid hL; have HE := Lib.hid hE; have H0 := Lib.hid h0; have HMM := Lib.hid hmm; have HGG := Lib.hid hgg; have HGA := Lib.hid hgA; have HFIT := Lib.hid hfit
      clear hL hE h0 hmm hgg hgA hfit
      go_wp2_with fail
      refine (ldSay_any pl l x HFIT.out (HO.out.perm (show _ = LdP pl l * (AgP p g * (EvSl hv (ttSays all) * (IntSl av all * emp))) by unfold TtO; ac_rfl))).mono ?_
      rintro e w2 ⟨rfl, ho⟩
      rw [HGG.out] at ho
      rw [← HE.out, HMM.out, ← ho1]
      obtain ⟨b3, hb_b3⟩ : ∃ zz_, zz_ = (w2).heap.size := ⟨_, rfl⟩
      obtain ⟨w3, hw_w3⟩ : ∃ zz_, zz_ = (w2).alloc (.cells #[.int .i64 o1.1, .int .i64 o1.2] 46 (0, 0)) := ⟨_, rfl⟩
      have h_HO3 := (ho).alloc (.cells #[.int .i64 o1.1, .int .i64 o1.2] 46 (0, 0))
      rw [← hb_b3, ← hw_w3] at h_HO3
      have HO3 := Lib.hid h_HO3
      clear h_HO3
      have HO2 := Lib.hid HO3.out.drop
      clear ho HO3 c0
      have HO1 := Lib.hid ho1
      clear ho1
      go_upto_region 15 with fail
      rw [← hb_b3, ← hw_w3]
      clear hb_b3 hw_w3
      go_wp2_with fail
      apply HK.out
      exact ⟨all, g, l, HS.out, by omega, HO2.out.perm (by unfold TtO; ac_rfl)⟩
    · subst h0
      obtain ⟨hK0, hout, hw1, hw2⟩ := hL.say hE.symm
      have hal30 : all.length ≤ 30 := by omega
      have hfit := hL.inv.fit
      have HE := Lib.hid hE
      clear hE
      have HL := Lib.hid hL; have HK0 := Lib.hid hK0; have HOUT := Lib.hid hout; have HW1 := Lib.hid hw1; have HW2 := Lib.hid hw2; have HGA := Lib.hid hgA; have HFIT := Lib.hid hfit
      clear hL hK0 hout hw1 hw2 hgA hfit
      go_wp2_with fail
      refine (ldSay_any pl l x HFIT.out (HO.out.perm (show _ = LdP pl l * (AgP p g * (EvSl hv (ttSays all) * (IntSl av all * emp))) by unfold TtO; ac_rfl))).mono ?_
      rintro e w2 ⟨rfl, ho⟩
      rw [HOUT.out, ← HE.out, errV0]
      obtain ⟨b3, hb_b3⟩ : ∃ zz_, zz_ = (w2).heap.size := ⟨_, rfl⟩
      obtain ⟨w4, hw_w4⟩ : ∃ zz_, zz_ = (w2).alloc (.cells #[.int .i64 (all.length : Int), .int .i64 x] 46 (0, 0)) := ⟨_, rfl⟩
      have h_HO3 := (ho).alloc (.cells #[.int .i64 (all.length : Int), .int .i64 x] 46 (0, 0))
      rw [← hb_b3, ← hw_w4] at h_HO3
      have HO3 := Lib.hid h_HO3
      clear h_HO3
      have HO2 : Hid (Own w (LdP pl (ldSay l x) * (blk b3 (.cells #[.int .i64 (all.length : Int), .int .i64 x] 46 (0, 0)) * (AgP p g * (EvSl hv (ttSays all) * (IntSl av all * emp))))) w4) := Lib.hid (HO3.out.perm (star_left_comm _ _ _))
      clear ho HO3 c0
      go_upto_region 15 with fail
      rw [← hb_b3, ← hw_w4]
      clear hb_b3 hw_w4
      go_upto_block 2 with fail
      refine ttTake w pl b3 all x hal30 (ldSay l x) _ HK0 (Lib.hid (fun w' S h => (Own.cell h.second 0).trans rfl)) HO2 ?_
      intros
      rename_i w3 hpp
      obtain ⟨l2, hg2, ho3⟩ := hpp
      have HO4 : Hid (Own w (AgP p g * (LdP pl l2 * (EvSl hv (ttSays all) * (IntSl av all * emp)))) w3) := Lib.hid ((ho3.perm (show _ = blk b3 (.cells #[.int .i64 (all.length : Int), .int .i64 x] 46 (0, 0)) * (AgP p g * (LdP pl l2 * (EvSl hv (ttSays all) * (IntSl av all * emp)))) by ac_rfl)).drop)
      have HG2 := Lib.hid hg2
      clear ho3 hg2 HO2
      obtain ⟨aad, acp, hav⟩ := Own.int_shape (HO4.out.fourth)
      subst hav
      obtain ⟨AL, hAL⟩ : ∃ L, L = all.length := ⟨_, rfl⟩
      have HO5 : Hid (Own w (Sl 3 1 (.slice aad AL acp) AL (all.map (Value.int .i64)) * (AgP p g * (LdP pl l2 * (EvSl hv (ttSays all) * emp)))) w3) := Lib.hid (HO4.out.perm (by unfold IntSl; rw [← hAL]; ac_rfl))
      have halL : AL ≤ i := by rw [hAL]; exact hal
      rw [← hAL]
      have HALL := Lib.hid hAL
      have c0 := HC.out _ _ HO5.out
      clear hAL hal HO4
      go_upto_region 30 with (at_builtin; refine wpList_app rfl _ _ 25 rfl 3 1 8 _ int_info Try.underlying25 rfl (by decide) rfl (HO5.out.alloc' _) rfl (by rfl) (Rd_lit (by simp) (by unfold maxLen; omega)) (by intro u hu; simp at hu; subst hu; rfl) (by unfold maxLen; omega) (by omega) ?_; intro v5 w5 ho5; have HO6 := Lib.hid ho5; clear ho5 c0)
      have e1 : Sl 3 1 v5 (AL + 1) (all.map (Value.int .i64) ++ [.int .i64 x]) = IntSl v5 (all ++ [x]) := by
        unfold IntSl
        rw [List.length_append, List.map_append, ← HALL.out]
        rfl
      have ho6 := HO6.out
      rw [e1] at ho6
      obtain ⟨had, hcp, hl3, hhv⟩ := sl_shape9 (ho6.perm (show _ = Sl 24 3 hv (ttSays all).length ((ttSays all).flatMap evCells) * (IntSl v5 (all ++ [x]) * (AgP p g * (LdP pl l2 * emp))) by unfold EvSl; ac_rfl))
      have HO7 : Hid (Own w (Sl 24 3 hv AL ((ttSays all).flatMap evCells) * (IntSl v5 (all ++ [x]) * (AgP p g * (LdP pl l2 * emp)))) w5) := Lib.hid (ho6.perm (by unfold EvSl; rw [tt_len, ← HALL.out]; ac_rfl))
      have c0 := HC.out _ _ HO7.out
      clear ho6 HO6 HO5 e1
      subst hhv
      go_upto_region 31 with (at_builtin; refine wpList_app rfl _ _ 22 rfl 24 3 24 _ info_ev Try.underlying22 rfl (by decide) rfl (HO7.out.alloc' _) rfl (by rfl) (Rd_lit (by simp) (by unfold maxLen; omega)) (by intro u hu; simp at hu; rcases hu with rfl | rfl | rfl <;> rfl) (by unfold maxLen; omega) (by omega) ?_; intro v6 w6 ho6; have HO8 := Lib.hid ho6; clear ho6 c0)
      have e2 : Sl 24 3 v6 (AL + 1) ((ttSays all).flatMap evCells ++ [.int .i64 4, .int .i64 2, .int .i64 x]) = EvSl v6 (ttSays (all ++ [x])) := by
        unfold EvSl
        rw [ttSays_snoc, List.length_append, tt_len, ← HALL.out, List.flatMap_append]
        rfl
      have ho8 := HO8.out
      rw [e2] at ho8
      have hlen : (all ++ [x]).length ≤ i + 1 := by rw [List.length_append, ← HALL.out]; simp; omega
      apply HK.out
      exact ⟨all ++ [x], g, l2, HS.out.snoc HW1.out HW2.out (fun _ => ⟨HG2.out.done, HGA.out⟩) (fun h => by cases h), hlen, ho8.perm (by unfold TtO; ac_rfl)⟩
end Go.Proofs.Ytiipldlggjjlnaa
/- TopTotal: all are settled, from the last to the first; what each heard. -/
namespace Go.Proofs.Ytiipldlggjjlnaa
set_option linter.unusedVariables false
set_option linter.unusedSimpArgs false
open Go.RowKit Go.Maps
theorem TtS.shift {all : List Int} {m : Nat} {g : Ag} (h : TtS all m all.length g) (he : all = []) : TtS all m 0 g := by
  refine ⟨h.toTtN, h.said, fun k j hj hk => ?_⟩
  rw [he] at hj; cases hj
noncomputable def ttSetIn_code : Code := ((Try.f4.body.bind (findBlock 8)).getD .skip)
set_option maxRecDepth 1000000 in
set_option maxHeartbeats 4000000 in
theorem ttSetIn {Q : Exit → Act → World → Prop} {u0 u1 u2 u3 u4 u5 u6 u7 u9 u10 u11 u12 u14 u15 u16 u17 u18 u19 u20 u21 u22 u25 u26 u27 u28 u29 u30 u31 u32 u33 u34 u35 u36 u37 u38 u39 u40 u41 u42 u43 u44 u45 u46 u47 u48 u49 u50 u51 u52 u53 u54 u55 u56 u57 u58 u59 u60 u61 u62 u63 u64 u65 u66 u67 u68 u69 u70 u71 u72 u73 u74 u75 u76 u77 u78 u79 u80 u81 u82 u83 u84 u85 u86 u87 u88 u89 u90 u91 u92 u93 u94 u95 u96 u97 u98 u99 u100 u101 u102 u103 u104 u105 u106 u107 u108 u109 u110 u111 u112 u113 u114 u115 u116 u117 u118 u119 u120 u121 u122 u123 u124 u125 u126 u127 u128 u129 u130 u131 u132 u133 u134 u135 u136 u137 u138 u139 u140 u141 u142 u143 u144 u145 u146 u147 u148 u149 u150 u151 u152 u153 u154 u155 u156 u157 u158 u159 u160 u161 u162 u163 u164 u165 u166 u167 u168 u169 u170 u171 u172 u173 u174 u175 u176 u177 u178 u179 u180 u181 u182 u183 u184 u185 u186 u187 u188 u189 u190 u191 u192 u193 u194 u195 u196 u197 u198 u199 u200 u201 u202 u203 u204 u205 u206 u207 u208 u209 u210 u211 u212 u213 u214 u215 u216 u217 : Value} {w1 : World} (w : World) (p m : Nat) (hm : m < 3) (all : List Int) (AL : Nat) (hAL : AL = all.length) (h10 : AL ≤ 10) (aad : Option Addr) (acp : Nat) (hc1 : AL ≤ acp) (hc2 : acp ≤ 9223372036854775807) (g : Ag) (R : HProp) (HS0 : Hid (TtS all m AL g)) (HV : Hid (∀ w' S, Own w (S * R) w' → Ints w' (.slice aad AL acp) all)) (HO : Hid (Own w (AgP p g * R) w1))
    (hK : ∀ (v6 v24 v25 v26 v135 v136 v137 v138 v139 v140 v141 v142 v143 v144 v145 v146 v147 v148 v149 v150 : Value) (wx : World), (∃ g2, TtS all m 0 g2 ∧ Own w (AgP p g2 * R) wx) → Q .normal ⟨List.toArray (u0 :: u1 :: u2 :: u3 :: u4 :: u5 :: v6 :: u7 :: (.pointer (some ⟨p, 0, none⟩)) :: u9 :: u10 :: u11 :: u12 :: (.slice aad AL acp) :: u14 :: u15 :: u16 :: u17 :: u18 :: u19 :: u20 :: u21 :: u22 :: (.int .i64 (m : Int)) :: v24 :: v25 :: v26 :: u27 :: u28 :: u29 :: u30 :: u31 :: u32 :: u33 :: u34 :: u35 :: u36 :: u37 :: u38 :: u39 :: u40 :: u41 :: u42 :: u43 :: u44 :: u45 :: u46 :: u47 :: u48 :: u49 :: u50 :: u51 :: u52 :: u53 :: u54 :: u55 :: u56 :: u57 :: u58 :: u59 :: u60 :: u61 :: u62 :: u63 :: u64 :: u65 :: u66 :: u67 :: u68 :: u69 :: u70 :: u71 :: u72 :: u73 :: u74 :: u75 :: u76 :: u77 :: u78 :: u79 :: u80 :: u81 :: u82 :: u83 :: u84 :: u85 :: u86 :: u87 :: u88 :: u89 :: u90 :: u91 :: u92 :: u93 :: u94 :: u95 :: u96 :: u97 :: u98 :: u99 :: u100 :: u101 :: u102 :: u103 :: u104 :: u105 :: u106 :: u107 :: u108 :: u109 :: u110 :: u111 :: u112 :: u113 :: u114 :: u115 :: u116 :: u117 :: u118 :: u119 :: u120 :: u121 :: u122 :: u123 :: u124 :: u125 :: u126 :: u127 :: u128 :: u129 :: u130 :: u131 :: u132 :: u133 :: u134 :: v135 :: v136 :: v137 :: v138 :: v139 :: v140 :: v141 :: v142 :: v143 :: v144 :: v145 :: v146 :: v147 :: v148 :: v149 :: v150 :: u151 :: u152 :: u153 :: u154 :: u155 :: u156 :: u157 :: u158 :: u159 :: u160 :: u161 :: u162 :: u163 :: u164 :: u165 :: u166 :: u167 :: u168 :: u169 :: u170 :: u171 :: u172 :: u173 :: u174 :: u175 :: u176 :: u177 :: u178 :: u179 :: u180 :: u181 :: u182 :: u183 :: u184 :: u185 :: u186 :: u187 :: u188 :: u189 :: u190 :: u191 :: u192 :: u193 :: u194 :: u195 :: u196 :: u197 :: u198 :: u199 :: u200 :: u201 :: u202 :: u203 :: u204 :: u205 :: u206 :: u207 :: u208 :: u209 :: u210 :: u211 :: u212 :: u213 :: u214 :: u215 :: u216 :: u217 :: []), []⟩ wx) :
    Code.wp Try.prog ttSetIn_code Q ⟨List.toArray (u0 :: u1 :: u2 :: u3 :: u4 :: u5 :: u6 :: u7 :: (.pointer (some ⟨p, 0, none⟩)) :: u9 :: u10 :: u11 :: u12 :: (.slice aad AL acp) :: u14 :: u15 :: u16 :: u17 :: u18 :: u19 :: u20 :: u21 :: u22 :: (.int .i64 (m : Int)) :: (.int .i64 ((AL : Int) - 1)) :: u25 :: u26 :: u27 :: u28 :: u29 :: u30 :: u31 :: u32 :: u33 :: u34 :: u35 :: u36 :: u37 :: u38 :: u39 :: u40 :: u41 :: u42 :: u43 :: u44 :: u45 :: u46 :: u47 :: u48 :: u49 :: u50 :: u51 :: u52 :: u53 :: u54 :: u55 :: u56 :: u57 :: u58 :: u59 :: u60 :: u61 :: u62 :: u63 :: u64 :: u65 :: u66 :: u67 :: u68 :: u69 :: u70 :: u71 :: u72 :: u73 :: u74 :: u75 :: u76 :: u77 :: u78 :: u79 :: u80 :: u81 :: u82 :: u83 :: u84 :: u85 :: u86 :: u87 :: u88 :: u89 :: u90 :: u91 :: u92 :: u93 :: u94 :: u95 :: u96 :: u97 :: u98 :: u99 :: u100 :: u101 :: u102 :: u103 :: u104 :: u105 :: u106 :: u107 :: u108 :: u109 :: u110 :: u111 :: u112 :: u113 :: u114 :: u115 :: u116 :: u117 :: u118 :: u119 :: u120 :: u121 :: u122 :: u123 :: u124 :: u125 :: u126 :: u127 :: u128 :: u129 :: u130 :: u131 :: u132 :: u133 :: u134 :: u135 :: u136 :: u137 :: u138 :: u139 :: u140 :: u141 :: u142 :: u143 :: u144 :: u145 :: u146 :: u147 :: u148 :: u149 :: u150 :: u151 :: u152 :: u153 :: u154 :: u155 :: u156 :: u157 :: u158 :: u159 :: u160 :: u161 :: u162 :: u163 :: u164 :: u165 :: u166 :: u167 :: u168 :: u169 :: u170 :: u171 :: u172 :: u173 :: u174 :: u175 :: u176 :: u177 :: u178 :: u179 :: u180 :: u181 :: u182 :: u183 :: u184 :: u185 :: u186 :: u187 :: u188 :: u189 :: u190 :: u191 :: u192 :: u193 :: u194 :: u195 :: u196 :: u197 :: u198 :: u199 :: u200 :: u201 :: u202 :: u203 :: u204 :: u205 :: u206 :: u207 :: u208 :: u209 :: u210 :: u211 :: u212 :: u213 :: u214 :: u215 :: u216 :: u217 :: []), []⟩ w1 := by
  conv => arg 2; whnf
  have HK := Lib.hid hK
  clear hK
  have HAL := Lib.hid hAL
  clear hAL
  go_wp2_with fail
  go_loopw [24] (fun iv wr => ∃ (i : Nat) (g2 : Ag), i ≤ AL ∧ iv = .int .i64 ((i : Int) - 1) ∧ Hid (TtS all m i g2) ∧ Hid (Own w (AgP p g2 * R) wr)) (fun iv _ => (intOf iv + 1).toNat)
  case atStart => exact ⟨AL, g, Nat.le_refl _, rfl, HS0, HO⟩
  case round =>
    clear HO HS0
    obtain ⟨i, g2, hi, rfl, HM, HP⟩ := hrel
    by_cases hz : i = 0
    · subst hz
      have t1 : decide ((0 : Int) ≤ ((0 : Nat) : Int) - 1) = false := by decide
      go_wp2_with fail
      apply HK.out
      exact ⟨g2, HM.out, HP.out⟩
    obtain ⟨j, rfl⟩ : ∃ j, i = j + 1 := ⟨i - 1, by omega⟩
    have hjl : j < all.length := by rw [← HAL.out]; omega
    obtain ⟨h1, h3⟩ := HM.out.step hm hjl
    obtain ⟨x, hx⟩ : ∃ x, x = all[j] := ⟨_, rfl⟩
    rw [← hx] at h1 h3
    obtain ⟨aa, rfl, hca⟩ := (HV.out _ _ HP.out).at j hjl
    rw [← hx] at hca
    have h5 : g2.mem.length ≤ 5 := by rw [HM.out.ag.len]; omega
    have e1 : (((j + 1 : Nat) : Int) - 1) = (j : Int) := by omega
    rw [e1]
    have t1 : decide ((0 : Int) ≤ (j : Int)) = true := decide_eq_true (by omega)
    have j0 : (0 : Int) ≤ (j : Int) := by omega
    have jN : (j : Int) < (AL : Int) := by omega
    have H1 := Lib.hid h1; have H3 := Lib.hid h3; have H5 := Lib.hid h5; have HX := Lib.hid hx; have E1 := Lib.hid e1
    clear h1 h3 h5 hx e1
    go_wp2_with fail
    refine (agSettle_any p g2 m x HM.out.ag.inv H5.out HP.out).mono ?_
    rintro e w2 ⟨v2, rfl, ho⟩
    rw [H1.out, errV0]
    have HO2 := Lib.hid ho.drop
    clear ho hca
    go_wp2_with fail
    go_round
    case rel => exact ⟨j, _, by omega, (by first | rfl | go_num), H3, HO2⟩
    case measure => simp [intOf] <;> omega
def TtE (lead : Bool) (all : List Int) (g g2 : Ag) : Prop := (lead = true → g2 = g) ∧ (lead = false → ∃ i, TtS all 3 i g2)
noncomputable def ttSettle_code : Code := ((Try.f4.body.bind (findBlock 6)).getD .skip)
set_option maxRecDepth 1000000 in
set_option maxHeartbeats 4000000 in
theorem ttSettle {Q : Exit → Act → World → Prop} {u0 u2 u3 u4 u5 u6 u7 u9 u10 u11 u12 u14 u15 u16 u17 u18 u19 u20 u21 u22 u24 u25 u26 u27 u28 u29 u30 u31 u32 u33 u34 u35 u36 u37 u38 u39 u40 u41 u42 u43 u44 u45 u46 u47 u48 u49 u50 u51 u52 u53 u54 u55 u56 u57 u58 u59 u60 u61 u62 u63 u64 u65 u66 u67 u68 u69 u70 u71 u72 u73 u74 u75 u76 u77 u78 u79 u80 u81 u82 u83 u84 u85 u86 u87 u88 u89 u90 u91 u92 u93 u94 u95 u96 u97 u98 u99 u100 u101 u102 u103 u104 u105 u106 u107 u108 u109 u110 u111 u112 u113 u114 u115 u116 u117 u118 u119 u120 u121 u122 u123 u124 u125 u126 u127 u128 u129 u130 u131 u132 u133 u134 u135 u136 u137 u138 u139 u140 u141 u142 u143 u144 u145 u146 u147 u148 u149 u150 u151 u152 u153 u154 u155 u156 u157 u158 u159 u160 u161 u162 u163 u164 u165 u166 u167 u168 u169 u170 u171 u172 u173 u174 u175 u176 u177 u178 u179 u180 u181 u182 u183 u184 u185 u186 u187 u188 u189 u190 u191 u192 u193 u194 u195 u196 u197 u198 u199 u200 u201 u202 u203 u204 u205 u206 u207 u208 u209 u210 u211 u212 u213 u214 u215 u216 u217 : Value} {w1 : World} (w : World) (p : Nat) (lead : Bool) (all : List Int) (AL : Nat) (hAL : AL = all.length) (h10 : AL ≤ 10) (aad : Option Addr) (acp : Nat) (hc1 : AL ≤ acp) (hc2 : acp ≤ 9223372036854775807) (g : Ag) (R : HProp) (HA : Hid (lead = false → TtA all g)) (HV : Hid (∀ w' S, Own w (S * R) w' → Ints w' (.slice aad AL acp) all)) (HO : Hid (Own w (AgP p g * R) w1))
    (hK : ∀ (v6 v23 v24 v25 v26 v124 v125 v126 v127 v128 v129 v130 v131 v132 v133 v134 v135 v136 v137 v138 v139 v140 v141 v142 v143 v144 v145 v146 v147 v148 v149 v150 : Value) (wx : World), (∃ g2, TtE lead all g g2 ∧ Own w (AgP p g2 * R) wx) → Q .normal ⟨List.toArray (u0 :: (.bool lead) :: u2 :: u3 :: u4 :: u5 :: v6 :: u7 :: (.pointer (some ⟨p, 0, none⟩)) :: u9 :: u10 :: u11 :: u12 :: (.slice aad AL acp) :: u14 :: u15 :: u16 :: u17 :: u18 :: u19 :: u20 :: u21 :: u22 :: v23 :: v24 :: v25 :: v26 :: u27 :: u28 :: u29 :: u30 :: u31 :: u32 :: u33 :: u34 :: u35 :: u36 :: u37 :: u38 :: u39 :: u40 :: u41 :: u42 :: u43 :: u44 :: u45 :: u46 :: u47 :: u48 :: u49 :: u50 :: u51 :: u52 :: u53 :: u54 :: u55 :: u56 :: u57 :: u58 :: u59 :: u60 :: u61 :: u62 :: u63 :: u64 :: u65 :: u66 :: u67 :: u68 :: u69 :: u70 :: u71 :: u72 :: u73 :: u74 :: u75 :: u76 :: u77 :: u78 :: u79 :: u80 :: u81 :: u82 :: u83 :: u84 :: u85 :: u86 :: u87 :: u88 :: u89 :: u90 :: u91 :: u92 :: u93 :: u94 :: u95 :: u96 :: u97 :: u98 :: u99 :: u100 :: u101 :: u102 :: u103 :: u104 :: u105 :: u106 :: u107 :: u108 :: u109 :: u110 :: u111 :: u112 :: u113 :: u114 :: u115 :: u116 :: u117 :: u118 :: u119 :: u120 :: u121 :: u122 :: u123 :: v124 :: v125 :: v126 :: v127 :: v128 :: v129 :: v130 :: v131 :: v132 :: v133 :: v134 :: v135 :: v136 :: v137 :: v138 :: v139 :: v140 :: v141 :: v142 :: v143 :: v144 :: v145 :: v146 :: v147 :: v148 :: v149 :: v150 :: u151 :: u152 :: u153 :: u154 :: u155 :: u156 :: u157 :: u158 :: u159 :: u160 :: u161 :: u162 :: u163 :: u164 :: u165 :: u166 :: u167 :: u168 :: u169 :: u170 :: u171 :: u172 :: u173 :: u174 :: u175 :: u176 :: u177 :: u178 :: u179 :: u180 :: u181 :: u182 :: u183 :: u184 :: u185 :: u186 :: u187 :: u188 :: u189 :: u190 :: u191 :: u192 :: u193 :: u194 :: u195 :: u196 :: u197 :: u198 :: u199 :: u200 :: u201 :: u202 :: u203 :: u204 :: u205 :: u206 :: u207 :: u208 :: u209 :: u210 :: u211 :: u212 :: u213 :: u214 :: u215 :: u216 :: u217 :: []), []⟩ wx) :
    Code.wp Try.prog ttSettle_code Q ⟨List.toArray (u0 :: (.bool lead) :: u2 :: u3 :: u4 :: u5 :: u6 :: u7 :: (.pointer (some ⟨p, 0, none⟩)) :: u9 :: u10 :: u11 :: u12 :: (.slice aad AL acp) :: u14 :: u15 :: u16 :: u17 :: u18 :: u19 :: u20 :: u21 :: u22 :: (.int .i64 0) :: u24 :: u25 :: u26 :: u27 :: u28 :: u29 :: u30 :: u31 :: u32 :: u33 :: u34 :: u35 :: u36 :: u37 :: u38 :: u39 :: u40 :: u41 :: u42 :: u43 :: u44 :: u45 :: u46 :: u47 :: u48 :: u49 :: u50 :: u51 :: u52 :: u53 :: u54 :: u55 :: u56 :: u57 :: u58 :: u59 :: u60 :: u61 :: u62 :: u63 :: u64 :: u65 :: u66 :: u67 :: u68 :: u69 :: u70 :: u71 :: u72 :: u73 :: u74 :: u75 :: u76 :: u77 :: u78 :: u79 :: u80 :: u81 :: u82 :: u83 :: u84 :: u85 :: u86 :: u87 :: u88 :: u89 :: u90 :: u91 :: u92 :: u93 :: u94 :: u95 :: u96 :: u97 :: u98 :: u99 :: u100 :: u101 :: u102 :: u103 :: u104 :: u105 :: u106 :: u107 :: u108 :: u109 :: u110 :: u111 :: u112 :: u113 :: u114 :: u115 :: u116 :: u117 :: u118 :: u119 :: u120 :: u121 :: u122 :: u123 :: u124 :: u125 :: u126 :: u127 :: u128 :: u129 :: u130 :: u131 :: u132 :: u133 :: u134 :: u135 :: u136 :: u137 :: u138 :: u139 :: u140 :: u141 :: u142 :: u143 :: u144 :: u145 :: u146 :: u147 :: u148 :: u149 :: u150 :: u151 :: u152 :: u153 :: u154 :: u155 :: u156 :: u157 :: u158 :: u159 :: u160 :: u161 :: u162 :: u163 :: u164 :: u165 :: u166 :: u167 :: u168 :: u169 :: u170 :: u171 :: u172 :: u173 :: u174 :: u175 :: u176 :: u177 :: u178 :: u179 :: u180 :: u181 :: u182 :: u183 :: u184 :: u185 :: u186 :: u187 :: u188 :: u189 :: u190 :: u191 :: u192 :: u193 :: u194 :: u195 :: u196 :: u197 :: u198 :: u199 :: u200 :: u201 :: u202 :: u203 :: u204 :: u205 :: u206 :: u207 :: u208 :: u209 :: u210 :: u211 :: u212 :: u213 :: u214 :: u215 :: u216 :: u217 :: []), []⟩ w1 := by
  conv => arg 2; whnf
  have HK := Lib.hid hK
  clear hK
  have HAL := Lib.hid hAL
  clear hAL
  cases lead
  rotate_left
  · go_wp2_with fail
    go_loopw [23] (fun mv wr => mv = .int .i64 0 ∧ wr = w1) (fun _ _ => 0)
    case atStart => exact ⟨rfl, rfl⟩
    case round =>
      obtain ⟨rfl, rfl⟩ := hrel
      go_wp2_with fail
      apply HK.out
      exact ⟨g, ⟨fun _ => rfl, fun h => by cases h⟩, HO.out⟩
  have hs := (HA.out rfl).start
  rw [← HAL.out] at hs
  have HS := Lib.hid hs
  clear hs
  go_wp2_with fail
  go_loopw [23] (fun mv wr => ∃ (m i : Nat) (g2 : Ag), m ≤ 3 ∧ mv = .int .i64 (m : Int) ∧ Hid (i = AL ∨ 3 ≤ m) ∧ Hid (TtS all m i g2) ∧ Hid (Own w (AgP p g2 * R) wr)) (fun mv _ => 3 - (intOf mv).toNat)
  case atStart => exact ⟨0, AL, g, by omega, rfl, Lib.hid (.inl rfl), HS, HO⟩
  case round =>
    clear HO HS
    obtain ⟨m, i, g2, hm, rfl, HI, HM, HP⟩ := hrel
    by_cases hlt : m < 3
    rotate_left
    · have : m = 3 := by omega
      subst this
      go_wp2_with fail
      apply HK.out
      exact ⟨g2, ⟨fun h => (by cases h), fun _ => ⟨i, HM.out⟩⟩, HP.out⟩
    have hiA : i = AL := by rcases HI.out with h | h <;> omega
    subst hiA
    go_upto_block 8 with fail
    refine ttSetIn w p m hlt all i HAL.out h10 aad acp hc1 hc2 g2 R HM HV HP ?_
    intros
    rename_i w3 hpp
    obtain ⟨g3, hg3, ho3⟩ := hpp
    have h9 := hg3.next
    rw [← HAL.out] at h9
    have HG3 := Lib.hid h9
    have HO3 := Lib.hid ho3
    clear hg3 ho3 HP h9
    go_wp2_with fail
    go_round
    case rel => exact ⟨m + 1, i, g3, by omega, by go_num, Lib.hid (.inl rfl), HG3, HO3⟩
    case measure => simp [intOf]; omega
/-! ### What each heard -/
def ttPre (all : List Int) (c m i : Nat) : List Ev := if m = 0 then (all.take i).map (evHear 0) else if m = 1 then all.map (evHear 0) ++ (all.take i).map (evHear 1) else if m = 2 then all.map (evHear 0) ++ (all.map (evHear 1) ++ (all.take (min i c)).map (evHear 2)) else ttHears all c
theorem ttPre0 (all : List Int) (c i : Nat) : ttPre all c 0 i = (all.take i).map (evHear 0) := rfl
theorem ttPre1 (all : List Int) (c i : Nat) : ttPre all c 1 i = all.map (evHear 0) ++ (all.take i).map (evHear 1) := rfl
theorem ttPre2 (all : List Int) (c i : Nat) : ttPre all c 2 i = all.map (evHear 0) ++ (all.map (evHear 1) ++ (all.take (min i c)).map (evHear 2)) := rfl
theorem ttPre3 (all : List Int) (c i : Nat) : ttPre all c 3 i = ttHears all c := rfl
theorem ttPre_next (all : List Int) (c : Nat) {m : Nat} (hm : m < 3) : ttPre all c m all.length = ttPre all c (m + 1) 0 := by
  have : m = 0 ∨ m = 1 ∨ m = 2 := by omega
  rcases this with rfl | rfl | rfl
  · rw [ttPre0, ttPre1]; simp
  · rw [ttPre1, ttPre2]; simp
  · rw [ttPre2, ttPre3]
    unfold ttHears
    by_cases h : c ≤ all.length
    · rw [Nat.min_eq_right h]
    · rw [Nat.min_eq_left (by omega), List.take_of_length_le (Nat.le_refl _), List.take_of_length_le (by omega)]
theorem ttPre_len (all : List Int) (c m i : Nat) : (ttPre all c m i).length ≤ 3 * all.length := by
  unfold ttPre ttHears
  split
  · simp; omega
  split
  · simp; omega
  split
  · simp; omega
  · simp; omega
theorem ttPre_say (all : List Int) (c m i : Nat) (hm : m < 3) (hi : i < all.length) (h2 : m < 2 ∨ i < c) : ttPre all c m (i + 1) = ttPre all c m i ++ [evHear m all[i]] := by
  have e1 : ∀ q : Int, (all.take (i + 1)).map (evHear q) = (all.take i).map (evHear q) ++ [evHear q all[i]] := fun q => by
    rw [List.take_succ_eq_append_getElem hi, List.map_append]; rfl
  have : m = 0 ∨ m = 1 ∨ m = 2 := by omega
  rcases this with rfl | rfl | rfl
  · rw [ttPre0, ttPre0]; exact e1 0
  · rw [ttPre1, ttPre1, e1 1, List.append_assoc]; rfl
  · have hc : i < c := by rcases h2 with h | h <;> omega
    rw [ttPre2, ttPre2, Nat.min_eq_left (by omega), Nat.min_eq_left (by omega), e1 2, List.append_assoc, List.append_assoc]; rfl
theorem ttPre_skip (all : List Int) (c m i : Nat) (hm : m < 3) (h1 : ¬ m < 2) (h2 : ¬ i < c) : ttPre all c m (i + 1) = ttPre all c m i := by
  have : m = 2 := by omega
  subst this
  rw [ttPre2, ttPre2, Nat.min_eq_right (by omega), Nat.min_eq_right (by omega)]
noncomputable def ttEvs_code : Code := ((Try.f4.body.bind (findBlock 12)).getD .skip)
set_option maxRecDepth 1000000 in
set_option maxHeartbeats 4000000 in
theorem ttEvs {Q : Exit → Act → World → Prop} {u0 u1 u3 u4 u5 u6 u7 u8 u9 u10 u11 u13 u14 u15 u16 u17 u18 u19 u20 u21 u22 u23 u24 u25 u26 u29 u31 u32 u33 u34 u35 u36 u37 u38 u39 u40 u41 u42 u43 u44 u45 u46 u47 u48 u49 u50 u51 u52 u53 u54 u55 u56 u57 u58 u59 u60 u61 u62 u63 u64 u65 u66 u67 u68 u69 u70 u71 u72 u73 u74 u75 u76 u77 u78 u79 u80 u81 u82 u83 u84 u85 u86 u87 u88 u89 u90 u91 u92 u93 u94 u95 u96 u97 u98 u99 u100 u101 u102 u103 u104 u105 u106 u107 u108 u109 u110 u111 u112 u113 u114 u115 u116 u117 u118 u119 u120 u121 u122 u123 u124 u125 u126 u127 u128 u129 u130 u131 u132 u133 u134 u135 u136 u137 u138 u139 u140 u141 u142 u143 u144 u145 u146 u147 u148 u149 u150 u151 u152 u153 u154 u155 u156 u157 u158 u159 u160 u161 u162 u163 u164 u165 u166 u167 u168 u169 u170 u171 u172 u173 u174 u175 u176 u177 u178 u179 u180 u181 u182 u183 u184 u185 u186 u187 u188 u189 u190 u191 u192 u193 u194 u195 u196 u197 u198 u199 u200 u201 u202 u203 u204 u205 u206 u207 u208 u209 u210 u211 u212 u213 u214 u215 u216 u217 : Value} {w1 : World} (w : World) (m : Nat) (hm : m < 3) (cut : Int) (c : Nat) (hc : c = cut.toNat) (all : List Int) (AL : Nat) (hAL : AL = all.length) (h10 : AL ≤ 10) (aad : Option Addr) (acp : Nat) (hc1 : AL ≤ acp) (hc2 : acp ≤ 9223372036854775807) (hv : Value) (R : HProp) (HV : Hid (∀ w' S, Own w (S * R) w' → Ints w' (.slice aad AL acp) all)) (HO : Hid (Own w (EvSl hv (ttSays all ++ ttPre all c m 0) * R) w1))
    (hK : ∀ (v12 v30 v177 v178 v179 v180 v181 v182 v183 v184 v185 v186 v187 v188 v189 v190 v191 v192 v193 v194 v195 v196 v197 v198 : Value) (wx : World), (Own w (EvSl v12 (ttSays all ++ ttPre all c m AL) * R) wx) → Q .normal ⟨List.toArray (u0 :: u1 :: (.int .i64 cut) :: u3 :: u4 :: u5 :: u6 :: u7 :: u8 :: u9 :: u10 :: u11 :: v12 :: u13 :: u14 :: u15 :: u16 :: u17 :: u18 :: u19 :: u20 :: u21 :: u22 :: u23 :: u24 :: u25 :: u26 :: (.int .i64 (m : Int)) :: (.slice aad AL acp) :: u29 :: v30 :: u31 :: u32 :: u33 :: u34 :: u35 :: u36 :: u37 :: u38 :: u39 :: u40 :: u41 :: u42 :: u43 :: u44 :: u45 :: u46 :: u47 :: u48 :: u49 :: u50 :: u51 :: u52 :: u53 :: u54 :: u55 :: u56 :: u57 :: u58 :: u59 :: u60 :: u61 :: u62 :: u63 :: u64 :: u65 :: u66 :: u67 :: u68 :: u69 :: u70 :: u71 :: u72 :: u73 :: u74 :: u75 :: u76 :: u77 :: u78 :: u79 :: u80 :: u81 :: u82 :: u83 :: u84 :: u85 :: u86 :: u87 :: u88 :: u89 :: u90 :: u91 :: u92 :: u93 :: u94 :: u95 :: u96 :: u97 :: u98 :: u99 :: u100 :: u101 :: u102 :: u103 :: u104 :: u105 :: u106 :: u107 :: u108 :: u109 :: u110 :: u111 :: u112 :: u113 :: u114 :: u115 :: u116 :: u117 :: u118 :: u119 :: u120 :: u121 :: u122 :: u123 :: u124 :: u125 :: u126 :: u127 :: u128 :: u129 :: u130 :: u131 :: u132 :: u133 :: u134 :: u135 :: u136 :: u137 :: u138 :: u139 :: u140 :: u141 :: u142 :: u143 :: u144 :: u145 :: u146 :: u147 :: u148 :: u149 :: u150 :: u151 :: u152 :: u153 :: u154 :: u155 :: u156 :: u157 :: u158 :: u159 :: u160 :: u161 :: u162 :: u163 :: u164 :: u165 :: u166 :: u167 :: u168 :: u169 :: u170 :: u171 :: u172 :: u173 :: u174 :: u175 :: u176 :: v177 :: v178 :: v179 :: v180 :: v181 :: v182 :: v183 :: v184 :: v185 :: v186 :: v187 :: v188 :: v189 :: v190 :: v191 :: v192 :: v193 :: v194 :: v195 :: v196 :: v197 :: v198 :: u199 :: u200 :: u201 :: u202 :: u203 :: u204 :: u205 :: u206 :: u207 :: u208 :: u209 :: u210 :: u211 :: u212 :: u213 :: u214 :: u215 :: u216 :: u217 :: []), []⟩ wx) :
    Code.wp Try.prog ttEvs_code Q ⟨List.toArray (u0 :: u1 :: (.int .i64 cut) :: u3 :: u4 :: u5 :: u6 :: u7 :: u8 :: u9 :: u10 :: u11 :: (hv) :: u13 :: u14 :: u15 :: u16 :: u17 :: u18 :: u19 :: u20 :: u21 :: u22 :: u23 :: u24 :: u25 :: u26 :: (.int .i64 (m : Int)) :: (.slice aad AL acp) :: u29 :: (.int .i64 0) :: u31 :: u32 :: u33 :: u34 :: u35 :: u36 :: u37 :: u38 :: u39 :: u40 :: u41 :: u42 :: u43 :: u44 :: u45 :: u46 :: u47 :: u48 :: u49 :: u50 :: u51 :: u52 :: u53 :: u54 :: u55 :: u56 :: u57 :: u58 :: u59 :: u60 :: u61 :: u62 :: u63 :: u64 :: u65 :: u66 :: u67 :: u68 :: u69 :: u70 :: u71 :: u72 :: u73 :: u74 :: u75 :: u76 :: u77 :: u78 :: u79 :: u80 :: u81 :: u82 :: u83 :: u84 :: u85 :: u86 :: u87 :: u88 :: u89 :: u90 :: u91 :: u92 :: u93 :: u94 :: u95 :: u96 :: u97 :: u98 :: u99 :: u100 :: u101 :: u102 :: u103 :: u104 :: u105 :: u106 :: u107 :: u108 :: u109 :: u110 :: u111 :: u112 :: u113 :: u114 :: u115 :: u116 :: u117 :: u118 :: u119 :: u120 :: u121 :: u122 :: u123 :: u124 :: u125 :: u126 :: u127 :: u128 :: u129 :: u130 :: u131 :: u132 :: u133 :: u134 :: u135 :: u136 :: u137 :: u138 :: u139 :: u140 :: u141 :: u142 :: u143 :: u144 :: u145 :: u146 :: u147 :: u148 :: u149 :: u150 :: u151 :: u152 :: u153 :: u154 :: u155 :: u156 :: u157 :: u158 :: u159 :: u160 :: u161 :: u162 :: u163 :: u164 :: u165 :: u166 :: u167 :: u168 :: u169 :: u170 :: u171 :: u172 :: u173 :: u174 :: u175 :: u176 :: u177 :: u178 :: u179 :: u180 :: u181 :: u182 :: u183 :: u184 :: u185 :: u186 :: u187 :: u188 :: u189 :: u190 :: u191 :: u192 :: u193 :: u194 :: u195 :: u196 :: u197 :: u198 :: u199 :: u200 :: u201 :: u202 :: u203 :: u204 :: u205 :: u206 :: u207 :: u208 :: u209 :: u210 :: u211 :: u212 :: u213 :: u214 :: u215 :: u216 :: u217 :: []), []⟩ w1 := by
  conv => arg 2; whnf
  have HK := Lib.hid hK
  clear hK
  have HAL := Lib.hid hAL
  clear hAL
  go_wp2_with fail
  go_loopw [12, 30] (fun hv iv wr => ∃ i : Nat, i ≤ AL ∧ iv = .int .i64 (i : Int) ∧ Hid (Own w (EvSl hv (ttSays all ++ ttPre all c m i) * R) wr)) (fun _ iv _ => AL - (intOf iv).toNat)
  case atStart => exact ⟨0, Nat.zero_le _, rfl, HO⟩
  case round =>
    clear HO
    obtain ⟨i, hi, rfl, HP⟩ := hrel
    by_cases hlt : i < AL
    rotate_left
    · have : i = AL := by omega
      subst this
      have t1 : decide ((i : Int) < (i : Int)) = false := decide_eq_false (by omega)
      go_wp2_with fail
      apply HK.out
      exact HP.out
    have hil : i < all.length := by rw [← HAL.out]; exact hlt
    obtain ⟨x, hx⟩ : ∃ x, x = all[i] := ⟨_, rfl⟩
    obtain ⟨aa, rfl, hca⟩ := (HV.out _ _ HP.out).at i hil
    rw [← hx] at hca
    have i0 : (0 : Int) ≤ (i : Int) := by omega
    have iN : (i : Int) < (AL : Int) := by omega
    obtain ⟨had, hcp, hl3, hhv⟩ := sl_shape9 (HP.out.perm (show _ = Sl 24 3 u12 (ttSays all ++ ttPre all c m i).length ((ttSays all ++ ttPre all c m i).flatMap evCells) * R by unfold EvSl; rfl))
    subst hhv
    obtain ⟨h0, hh0⟩ : ∃ h, h = ttSays all ++ ttPre all c m i := ⟨_, rfl⟩
    rw [← hh0] at HP
    have hlen : h0.length ≤ 40 := by
      have := ttPre_len all c m i
      rw [hh0, List.length_append, tt_len, ← HAL.out] at *
      omega
    obtain ⟨HL, hHL⟩ : ∃ L, L = h0.length := ⟨_, rfl⟩
    rw [← hHL] at hlen
    have HP2 : Hid (Own w (Sl 24 3 (.slice had hcp hl3) HL (h0.flatMap evCells) * R) wr) := Lib.hid (by have h9 := HP.out; unfold EvSl at h9; rw [← hHL] at h9; exact h9)
    have HHL := Lib.hid hHL
    clear hHL
    by_cases hs : m < 2 ∨ (i : Int) < cut
    · have HNX : Hid (ttSays all ++ ttPre all c m (i + 1) = h0 ++ [evHear m x]) := Lib.hid (by
        rw [ttPre_say all c m i hm hil (by rw [hc]; omega), hh0, hx, List.append_assoc])
      have hcs : m < 2 ∨ (¬ m < 2 ∧ (i : Int) < cut) := by omega
      have HX := Lib.hid hx; have HH0 := Lib.hid hh0
      clear hx hh0
      clear hs
      rcases hcs with h2 | ⟨h2, h3⟩
      all_goals
        go_wp2_with (at_builtin; refine wpList_app rfl _ _ 22 rfl 24 3 24 _ info_ev Try.underlying22 rfl (by decide) rfl (HP2.out.alloc' _) rfl (by rfl) (Rd_lit (by simp) (by unfold maxLen; omega)) (by intro u hu; simp at hu; rcases hu with rfl | rfl | rfl <;> rfl) (by unfold maxLen; omega) (by omega) ?_; intro v6 w6 ho6; have HO8 := Lib.hid ho6; clear ho6 hca)
        have e2 : Sl 24 3 v6 (HL + 1) (h0.flatMap evCells ++ [.int .i64 (m : Int), .int .i64 3, .int .i64 x]) = EvSl v6 (h0 ++ [evHear m x]) := by
          unfold EvSl
          rw [List.length_append, ← HHL.out, List.flatMap_append]
          rfl
        have ho8 := HO8.out
        rw [e2] at ho8
        have HO9 := Lib.hid ho8
        clear ho8 e2
        go_round
        case rel => exact ⟨i + 1, by omega, by go_num, Lib.hid (by rw [HNX.out]; exact HO9.out)⟩
        case measure => simp [intOf] <;> omega
    · have HNX : Hid (ttSays all ++ ttPre all c m (i + 1) = h0) := Lib.hid (by
        rw [ttPre_skip all c m i hm (by omega) (by rw [hc]; omega), hh0])
      have h2 : ¬ m < 2 := by omega
      have h3 : ¬ (i : Int) < cut := by omega
      clear hs
      have HX := Lib.hid hx; have HH0 := Lib.hid hh0
      clear hx hh0
      go_wp2_with fail
      go_round
      case rel => exact ⟨i + 1, by omega, by go_num, Lib.hid (by rw [HNX.out]; exact HP.out)⟩
      case measure => simp [intOf] <;> omega
end Go.Proofs.Ytiipldlggjjlnaa
