/- NetKeeps: what is sent comes, or is lost, or is there. -/
import Derived.Test.YtldmdenojpnldaaDoorNet3
import Derived.Test.YtldmdenojpnldaaDoorTold
import Derived.Test.YtldmdenojpnldaaDoorPiece
namespace Go.Proofs.YtldmdenojpnldaaDoor
set_option linter.unusedVariables false
set_option linter.unusedSimpArgs false
open Go.RowKit Go.Maps
theorem ntSend_len {s : Nt} {q : Ev} : (ntSend s q).all.length = s.all.length + if ntErr s q = 0 then 1 else 0 := by
  unfold ntSend
  by_cases h : ntErr s q = 0
  · rw [if_pos h, if_pos h]; simp
  · rw [if_neg h, if_neg h]; rfl
theorem ntTwice_len {s : Nt} {i : Int} : (ntTwice s i).all.length = s.all.length + if ntTwiceErr s i = 0 then 1 else 0 := by
  by_cases h : ntTwiceErr s i = 0
  · have h2 : ntErr s (ntAt s i) = 0 := by
      unfold ntTwiceErr at h
      cases hh : ntHas s i
      · rw [hh, if_pos rfl] at h; cases h
      · rw [hh, if_neg (by simp)] at h; exact h
    unfold ntTwice
    rw [if_pos h, if_pos h, ntSend_len, if_pos h2]
  · unfold ntTwice
    rw [if_neg h, if_neg h]; rfl
theorem ntOut_len {s : Nt} {i : Int} (h : ntHas s i = true) : (ntOut s i).all.length + 1 = s.all.length := by
  obtain ⟨h1, h2⟩ := ntHas_iff.1 h
  unfold ntOut
  show (s.all.eraseIdx i.toNat).length + 1 = _
  rw [List.length_eraseIdx_of_lt (by omega)]
  omega
theorem ntGive_has {s : Nt} {i : Int} (h : ntGiveErr s i = 0) : ntHas s i = true := by
  unfold ntGiveErr at h
  cases hh : ntHas s i
  · rw [hh, if_pos rfl] at h; cases h
  · rfl
theorem ntGive_len {s : Nt} {i : Int} (h : ntGiveErr s i = 0) : (ntGive s i).all.length + 1 = s.all.length := by
  unfold ntGive
  rw [if_pos h]
  exact ntOut_len (ntGive_has h)
theorem ntDrop_len {s : Nt} {i : Int} (h : ntDropErr s i = 0) : (ntDrop s i).all.length + 1 = s.all.length := by
  unfold ntDrop
  rw [if_pos h]
  refine ntOut_len ?_
  unfold ntDropErr at h
  cases hh : ntHas s i
  · rw [hh, if_pos rfl] at h; cases h
  · rfl
theorem ntDrop_len' {s : Nt} {i : Int} (h : ntDropErr s i ≠ 0) : (ntDrop s i) = s := by
  unfold ntDrop; rw [if_neg h]
theorem ntGive_len' {s : Nt} {i : Int} (h : ntGiveErr s i ≠ 0) : (ntGive s i) = s := by
  unfold ntGive; rw [if_neg h]
noncomputable def nkStep_code : Code := ((Tryd.f4.body.bind (findBlock 2)).getD .skip)
set_option maxRecDepth 1000000 in
set_option maxHeartbeats 4000000 in
theorem nkStep {Q : Exit → Act → World → Prop} {u1 u2 u3 u4 u6 u7 u8 u9 u10 u11 u12 u14 u16 u17 u18 u19 u20 u21 u22 u23 u24 u25 u26 u27 u28 u29 u30 u31 u32 u33 u34 u35 u36 u37 u38 u39 u40 u41 u42 u43 u44 u45 u46 u47 u48 u49 u50 u51 u52 u53 u54 u55 u56 u57 u58 u59 u60 u61 u62 u63 u64 u65 u66 u67 u68 u69 u70 u71 u72 u73 u74 u75 u76 u77 u78 u79 u80 u82 u83 u84 u85 u86 u87 u88 u89 u90 u91 u92 u93 u94 u95 u96 u97 u98 u99 u100 u101 u102 u103 u104 u105 u106 u107 u108 u109 u110 u111 u112 u113 u114 u115 u116 u117 u118 u119 u120 u121 u122 u123 u124 u125 u126 u127 u128 u129 u130 u131 u132 u133 u134 u135 u136 : Value} {w1 : World} (w : World) {p n cap : Nat} {ad : Option Addr} {l : List Ev} (s : Nt) (hI : NtI s) (k r : Int) (hn : n = l.length) (hcap : n ≤ cap ∧ cap ≤ 9223372036854775807) (HEL : Hid (Evs w (.slice ad n cap) l)) (HP : Hid (Own w (NtP p s * emp) w1))
    (hK : ∀ (v13 v16 v17 v82 v83 v84 v85 v86 v87 v88 v89 v90 v91 v92 v93 v94 v95 v96 v97 v98 v99 v100 v101 v102 v103 v104 v105 v106 v107 v108 v109 v110 v111 v112 v113 v114 v115 v116 v117 v118 v119 v120 v121 v122 v123 v124 v125 v126 v127 : Value) (wx : World), (∃ s' : Nt, v13 = .int .i64 (s'.all.length : Nat) ∧ NtI s' ∧ Own w (NtP p s' * emp) wx) → Q .normal ⟨List.toArray ((.slice ad n cap) :: u1 :: u2 :: u3 :: u4 :: (.pointer (some ⟨p, 0, none⟩)) :: u6 :: u7 :: u8 :: u9 :: u10 :: u11 :: u12 :: v13 :: u14 :: (.int .i64 k) :: v16 :: v17 :: u18 :: u19 :: u20 :: u21 :: u22 :: u23 :: u24 :: u25 :: u26 :: u27 :: u28 :: u29 :: u30 :: u31 :: u32 :: u33 :: u34 :: u35 :: u36 :: u37 :: u38 :: u39 :: u40 :: u41 :: u42 :: u43 :: u44 :: u45 :: u46 :: u47 :: u48 :: u49 :: u50 :: u51 :: u52 :: u53 :: u54 :: u55 :: u56 :: u57 :: u58 :: u59 :: u60 :: u61 :: u62 :: u63 :: u64 :: u65 :: u66 :: u67 :: u68 :: u69 :: u70 :: u71 :: u72 :: u73 :: u74 :: u75 :: u76 :: u77 :: u78 :: u79 :: u80 :: (.int .i64 r) :: v82 :: v83 :: v84 :: v85 :: v86 :: v87 :: v88 :: v89 :: v90 :: v91 :: v92 :: v93 :: v94 :: v95 :: v96 :: v97 :: v98 :: v99 :: v100 :: v101 :: v102 :: v103 :: v104 :: v105 :: v106 :: v107 :: v108 :: v109 :: v110 :: v111 :: v112 :: v113 :: v114 :: v115 :: v116 :: v117 :: v118 :: v119 :: v120 :: v121 :: v122 :: v123 :: v124 :: v125 :: v126 :: v127 :: u128 :: u129 :: u130 :: u131 :: u132 :: u133 :: u134 :: u135 :: u136 :: []), []⟩ wx) :
    Code.wp Tryd.prog nkStep_code Q ⟨List.toArray ((.slice ad n cap) :: u1 :: u2 :: u3 :: u4 :: (.pointer (some ⟨p, 0, none⟩)) :: u6 :: u7 :: u8 :: u9 :: u10 :: u11 :: u12 :: (.int .i64 (s.all.length : Nat)) :: u14 :: (.int .i64 k) :: u16 :: u17 :: u18 :: u19 :: u20 :: u21 :: u22 :: u23 :: u24 :: u25 :: u26 :: u27 :: u28 :: u29 :: u30 :: u31 :: u32 :: u33 :: u34 :: u35 :: u36 :: u37 :: u38 :: u39 :: u40 :: u41 :: u42 :: u43 :: u44 :: u45 :: u46 :: u47 :: u48 :: u49 :: u50 :: u51 :: u52 :: u53 :: u54 :: u55 :: u56 :: u57 :: u58 :: u59 :: u60 :: u61 :: u62 :: u63 :: u64 :: u65 :: u66 :: u67 :: u68 :: u69 :: u70 :: u71 :: u72 :: u73 :: u74 :: u75 :: u76 :: u77 :: u78 :: u79 :: u80 :: (.int .i64 r) :: u82 :: u83 :: u84 :: u85 :: u86 :: u87 :: u88 :: u89 :: u90 :: u91 :: u92 :: u93 :: u94 :: u95 :: u96 :: u97 :: u98 :: u99 :: u100 :: u101 :: u102 :: u103 :: u104 :: u105 :: u106 :: u107 :: u108 :: u109 :: u110 :: u111 :: u112 :: u113 :: u114 :: u115 :: u116 :: u117 :: u118 :: u119 :: u120 :: u121 :: u122 :: u123 :: u124 :: u125 :: u126 :: u127 :: u128 :: u129 :: u130 :: u131 :: u132 :: u133 :: u134 :: u135 :: u136 :: []), []⟩ w1 := by
  conv => arg 2; whnf
  have HK := Lib.hid hK
  clear hK
  have hlen := hI.len
  obtain ⟨L, hL⟩ : ∃ L, L = s.all.length := ⟨_, rfl⟩
  rw [← hL] at hlen ⊢
  obtain ⟨hc1, hc2⟩ := hcap
  by_cases hr : r = 0 ∨ r = 1
  · have hsend : ∀ q, ntErr s q = 0 → L < 40 := fun q hq => by have := (ntErr0 hq).2; omega
    by_cases hk0 : 0 ≤ k
    rotate_left
    · have t1 : decide (0 ≤ k) = false := by simpa using hk0
      have fin : ∃ s' : Nt, (.int .i64 L : Value) = .int .i64 (s'.all.length : Nat) ∧ NtI s' ∧ Own w (NtP p s' * emp) w1 := ⟨s, by rw [hL], hI, HP.out⟩
      rcases hr with rfl | rfl
      all_goals
        have FIN := Lib.hid fin
        clear fin
        have HI := Lib.hid hI; have HL := Lib.hid hL; have HN := Lib.hid hn; have HK0 := Lib.hid hk0
        clear hI hL hn hk0
        go_wp2_with fail
        apply HK.out
        exact FIN.out
    obtain ⟨K, rfl⟩ : ∃ K : Nat, k = (K : Int) := ⟨k.toNat, by omega⟩
    by_cases hkn : K < n
    rotate_left
    · have t2 : decide (K < n) = false := by simpa using hkn
      have fin : ∃ s' : Nt, (.int .i64 L : Value) = .int .i64 (s'.all.length : Nat) ∧ NtI s' ∧ Own w (NtP p s' * emp) w1 := ⟨s, by rw [hL], hI, HP.out⟩
      rcases hr with rfl | rfl
      all_goals
        have FIN := Lib.hid fin
        clear fin
        have HI := Lib.hid hI; have HL := Lib.hid hL; have HN := Lib.hid hn; have HK0 := Lib.hid hk0
        clear hI hL hn hk0
        go_wp2_with fail
        apply HK.out
        exact FIN.out
    obtain ⟨a, eb, eo, es, rfl, e1, hc, hgd⟩ := (HEL.out.reads (R := NtP p s * emp)).at HP.out K (by rw [← hn]; exact hkn)
    obtain ⟨x, hx⟩ : ∃ x, x = evAt l K := ⟨_, rfl⟩
    rw [← hx] at hc
    obtain ⟨xa, xb, xd⟩ := x
    obtain ⟨c0, c1, c2⟩ := hc _ HP.out
    simp only at c0 c1 c2
    have hnl := ntSend_len (s := s) (q := (xa, xb, xd))
    have hni := hI.send (xa, xb, xd)
    have hb := hsend (xa, xb, xd)
    obtain ⟨E, hE⟩ : ∃ E, E = ntErr s (xa, xb, xd) := ⟨_, rfl⟩
    rw [← hE, ← hL] at hnl
    rw [← hE] at hb
    clear hc
    by_cases hE0 : E = 0
    · subst hE0
      have hL40 := hb rfl
      rw [if_pos rfl] at hnl
      rcases hr with rfl | rfl
      all_goals
        have HI := Lib.hid hI; have HL := Lib.hid hL; have HN := Lib.hid hn; have HK0 := Lib.hid hk0; have HX := Lib.hid hx; have HE := Lib.hid hE; have HNL := Lib.hid hnl; have HNI := Lib.hid hni; have HB := Lib.hid hb; have HGD := Lib.hid hgd; have HSEND := Lib.hid hsend
        clear hI hL hn hk0 hx hE hnl hni hb hgd hsend
        go_wp2_with fail
        refine (ntSend_any p s (xa, xb, xd) HI.out HP.out).mono ?_
        rintro e w2 ⟨rfl, ho⟩
        rw [← HE.out, errV0]
        have HO2 := Lib.hid ho
        clear ho c0 c1 c2
        go_wp2_with fail
        apply HK.out
        exact ⟨_, by rw [HNL.out, Int.natCast_add]; rfl, HNI.out, HO2.out⟩
    · rw [if_neg hE0] at hnl
      obtain ⟨mm, hmm⟩ := errV_some hE0
      rcases hr with rfl | rfl
      all_goals
        have HI := Lib.hid hI; have HL := Lib.hid hL; have HN := Lib.hid hn; have HK0 := Lib.hid hk0; have HX := Lib.hid hx; have HE := Lib.hid hE; have HNL := Lib.hid hnl; have HNI := Lib.hid hni; have HB := Lib.hid hb; have HGD := Lib.hid hgd; have HE0 := Lib.hid hE0; have HMM := Lib.hid hmm; have HSEND := Lib.hid hsend
        clear hI hL hn hk0 hx hE hnl hni hb hgd hE0 hmm hsend
        go_wp2_with fail
        refine (ntSend_any p s (xa, xb, xd) HI.out HP.out).mono ?_
        rintro e w2 ⟨rfl, ho⟩
        rw [← HE.out, HMM.out]
        have HO2 := Lib.hid ho
        clear ho c0 c1 c2
        go_wp2_with fail
        apply HK.out
        exact ⟨_, by rw [HNL.out]; rfl, HNI.out, HO2.out⟩
  have tr0 : (r == 0) = false := by rw [beq_eq_false_iff_ne]; exact fun e => hr (.inl e)
  have tr1 : (r == 1) = false := by rw [beq_eq_false_iff_ne]; exact fun e => hr (.inr e)
  by_cases hr2 : r = 2
  · subst hr2
    have hnl := ntTwice_len (s := s) (i := k)
    have hni := hI.twice k
    have hb : ntTwiceErr s k = 0 → (ntTwice s k).all.length ≤ 40 := fun _ => hni.len
    obtain ⟨E, hE⟩ : ∃ E, E = ntTwiceErr s k := ⟨_, rfl⟩
    rw [← hE, ← hL] at hnl
    rw [← hE] at hb
    by_cases hE0 : E = 0
    · subst hE0
      have hL40 := hb rfl
      rw [if_pos rfl] at hnl
      rw [hnl] at hL40
      have HI := Lib.hid hI; have HL := Lib.hid hL; have HN := Lib.hid hn; have HE := Lib.hid hE; have HNL := Lib.hid hnl; have HNI := Lib.hid hni; have HB := Lib.hid hb; have HR := Lib.hid hr
      clear hI hL hn hE hnl hni hb hr
      go_wp2_with fail
      refine (ntTwice_any p s k HI.out HP.out).mono ?_
      rintro e w2 ⟨rfl, ho⟩
      rw [← HE.out, errV0]
      have HO2 := Lib.hid ho
      clear ho
      go_wp2_with fail
      apply HK.out
      exact ⟨_, by rw [HNL.out, Int.natCast_add]; rfl, HNI.out, HO2.out⟩
    · rw [if_neg hE0] at hnl
      obtain ⟨mm, hmm⟩ := errV_some hE0
      have HI := Lib.hid hI; have HL := Lib.hid hL; have HN := Lib.hid hn; have HE := Lib.hid hE; have HNL := Lib.hid hnl; have HNI := Lib.hid hni; have HB := Lib.hid hb; have HR := Lib.hid hr; have HE0 := Lib.hid hE0; have HMM := Lib.hid hmm
      clear hI hL hn hE hnl hni hb hr hE0 hmm
      go_wp2_with fail
      refine (ntTwice_any p s k HI.out HP.out).mono ?_
      rintro e w2 ⟨rfl, ho⟩
      rw [← HE.out, HMM.out]
      have HO2 := Lib.hid ho
      clear ho
      go_wp2_with fail
      apply HK.out
      exact ⟨_, by rw [HNL.out]; rfl, HNI.out, HO2.out⟩
  have tr2 : (r == 2) = false := by rw [beq_eq_false_iff_ne]; exact hr2
  have hni := hI.give k
  obtain ⟨E, hE⟩ : ∃ E, E = ntGiveErr s k := ⟨_, rfl⟩
  by_cases hE0 : E = 0
  · have hnl := ntGive_len (s := s) (i := k) (by rw [← hE]; exact hE0)
    rw [← hL] at hnl
    subst hE0
    have HI := Lib.hid hI; have HL := Lib.hid hL; have HN := Lib.hid hn; have HE := Lib.hid hE; have HNI := Lib.hid hni; have HR := Lib.hid hr; have HR2 := Lib.hid hr2
    clear hI hL hn hE hni hr hr2
    go_wp2_with fail
    refine (ntGive_any p s k HI.out HP.out).mono ?_
    rintro e w2 ⟨rfl, ho⟩
    rw [← HE.out, errV0]
    unfold evV
    have HO2 := Lib.hid (ho.alloc' (.cells #[.int .i64 (ntGiven s k).1, .int .i64 (ntGiven s k).2.1, .int .i64 (ntGiven s k).2.2] 23 (0, 0)))
    clear ho
    go_wp2_with fail
    apply HK.out
    exact ⟨_, by congr 1; omega, HNI.out, HO2.out⟩
  · have hgs := ntGive_len' (s := s) (i := k) (by rw [← hE]; exact hE0)
    obtain ⟨mm, hmm⟩ := errV_some hE0
    have hni2 := hI.drop k
    obtain ⟨F, hF⟩ : ∃ F, F = ntDropErr s k := ⟨_, rfl⟩
    by_cases hF0 : F = 0
    · have hnl := ntDrop_len (s := s) (i := k) (by rw [← hF]; exact hF0)
      rw [← hL] at hnl
      subst hF0
      have HI := Lib.hid hI; have HL := Lib.hid hL; have HN := Lib.hid hn; have HE := Lib.hid hE; have HNI := Lib.hid hni; have HR := Lib.hid hr; have HR2 := Lib.hid hr2; have HE0 := Lib.hid hE0; have HMM := Lib.hid hmm; have HGS := Lib.hid hgs; have HNI2 := Lib.hid hni2; have HF := Lib.hid hF
      clear hI hL hn hE hni hr hr2 hE0 hmm hgs hni2 hF
      go_wp2_with fail
      refine (ntGive_any p s k HI.out HP.out).mono ?_
      rintro e w2 ⟨rfl, ho⟩
      rw [← HE.out, HMM.out]
      rw [HGS.out] at ho
      unfold evV
      have HO2 := Lib.hid (ho.alloc' (.cells #[.int .i64 (ntGiven s k).1, .int .i64 (ntGiven s k).2.1, .int .i64 (ntGiven s k).2.2] 23 (0, 0)))
      clear ho
      go_wp2_with fail
      refine (ntDrop_any p s k HI.out HO2.out).mono ?_
      rintro e w3 ⟨rfl, ho⟩
      rw [← HF.out, errV0]
      have HO3 := Lib.hid ho
      clear ho
      go_wp2_with fail
      apply HK.out
      exact ⟨_, by congr 1; omega, HNI2.out, HO3.out⟩
    · have hds := ntDrop_len' (s := s) (i := k) (by rw [← hF]; exact hF0)
      obtain ⟨mm2, hmm2⟩ := errV_some hF0
      have HI := Lib.hid hI; have HL := Lib.hid hL; have HN := Lib.hid hn; have HE := Lib.hid hE; have HNI := Lib.hid hni; have HR := Lib.hid hr; have HR2 := Lib.hid hr2; have HE0 := Lib.hid hE0; have HMM := Lib.hid hmm; have HGS := Lib.hid hgs; have HNI2 := Lib.hid hni2; have HF := Lib.hid hF; have HDS := Lib.hid hds; have HMM2 := Lib.hid hmm2; have HF0 := Lib.hid hF0
      clear hI hL hn hE hni hr hr2 hE0 hmm hgs hni2 hF hds hmm2 hF0
      go_wp2_with fail
      refine (ntGive_any p s k HI.out HP.out).mono ?_
      rintro e w2 ⟨rfl, ho⟩
      rw [← HE.out, HMM.out]
      rw [HGS.out] at ho
      unfold evV
      have HO2 := Lib.hid (ho.alloc' (.cells #[.int .i64 (ntGiven s k).1, .int .i64 (ntGiven s k).2.1, .int .i64 (ntGiven s k).2.2] 23 (0, 0)))
      clear ho
      go_wp2_with fail
      refine (ntDrop_any p s k HI.out HO2.out).mono ?_
      rintro e w3 ⟨rfl, ho⟩
      rw [← HF.out, HMM2.out]
      rw [HDS.out] at ho
      have HO3 := Lib.hid ho
      clear ho
      go_wp2_with fail
      apply HK.out
      exact ⟨s, by rw [HL.out], HI.out, HO3.out⟩
def nkP : Ev := (0, 1, 3)
def nk1 : Nt := ⟨[nkP], []⟩
def nk2 : Nt := ⟨[nkP], [(0, 1)]⟩
theorem nk_facts : ntErr ⟨[], []⟩ nkP = 0 ∧ ntSend ⟨[], []⟩ nkP = nk1 ∧ ntCut nk1 1 0 true = nk2 ∧ ntGiveErr nk2 0 = 6 ∧ ntGive nk2 0 = nk2 ∧ ntCut nk2 0 1 false = nk1 ∧ ntGiveErr nk1 0 = 0 ∧ ntGiven nk1 0 = nkP ∧ ntGive nk1 0 = ⟨[], []⟩ := by
  refine ⟨by decide, rfl, rfl, by decide, rfl, rfl, by decide, rfl, rfl⟩
theorem nk_inv : NtI nk1 ∧ NtI nk2 := by
  have h1 : NtI nk1 := by rw [← nk_facts.2.1]; exact NtI.new.send _
  exact ⟨h1, by rw [← nk_facts.2.2.1]; exact h1.cut' _ _ _⟩
set_option maxRecDepth 100000 in
set_option maxHeartbeats 4000000 in
theorem netKeeps_law (w : World) (hg : As.Handle w) (vl : Value) (l : List Ev) (hl : Evs w vl l) (vs : Value) (steps : List Int) (hs : Ints w vs steps) :
    Calls Tryd.prog 4 #[vl, vs] w fun e w' => e = .returned (.bool true) ∧ Below w.heap.size w w' := by
  have HW0 := Lib.hid (Own.start w)
  obtain ⟨ad, cap, rfl, hlc, hlcap⟩ := hl.shape
  obtain ⟨sd, scap, rfl, hsc, hscap⟩ := hs.shape
  obtain ⟨n, hn⟩ : ∃ n, n = l.length := ⟨_, rfl⟩
  rw [← hn] at hl hlc ⊢
  obtain ⟨f1, f2, f3, f4, f5, f6, f7, f8, f9⟩ := nk_facts
  obtain ⟨i1, i2⟩ := nk_inv
  have i0 := NtI.new
  have HG := Lib.hid hg; have HL := Lib.hid hl; have HS := Lib.hid hs; have HN := Lib.hid hn; have F1 := Lib.hid f1; have F2 := Lib.hid f2; have F3 := Lib.hid f3; have F4 := Lib.hid f4; have F5 := Lib.hid f5; have F6 := Lib.hid f6; have F7 := Lib.hid f7; have F8 := Lib.hid f8; have F9 := Lib.hid f9; have I0 := Lib.hid i0; have I1 := Lib.hid i1; have I2 := Lib.hid i2
  clear hg hl hs hn f1 f2 f3 f4 f5 f6 f7 f8 f9 i0 i1 i2
  go_enter Tryd.func4, Tryd.ntmps4
  go_wp2_with fail
  refine (ntNew_any HW0.out).mono ?_
  rintro e w1 ⟨p, rfl, ho⟩
  have HO1 := Lib.hid ho
  clear ho
  go_wp2_with fail
  refine (ntSend_any p _ nkP I0.out HO1.out).mono ?_
  rintro e w2 ⟨rfl, ho⟩
  rw [F1.out, errV0]
  rw [F2.out] at ho
  have HO2 := Lib.hid ho
  clear ho
  go_wp2_with fail
  refine (ntCut_any p _ 1 0 true HO2.out).mono ?_
  rintro e w3 ⟨rfl, ho⟩
  rw [show errV (ntCutErr 1 0) = .nilIface from rfl]
  rw [F3.out] at ho
  have HO3 := Lib.hid ho
  clear ho
  go_wp2_with fail
  refine (ntGive_any p _ 0 I2.out HO3.out).mono ?_
  rintro e w4 ⟨rfl, ho⟩
  rw [F4.out, show errV 6 = .iface 129 (.int .i64 6) from rfl]
  rw [F5.out] at ho
  unfold evV
  have HO4 := Lib.hid (ho.alloc' (.cells #[.int .i64 (ntGiven nk2 0).1, .int .i64 (ntGiven nk2 0).2.1, .int .i64 (ntGiven nk2 0).2.2] 23 (0, 0)))
  clear ho
  go_wp2_with fail
  refine (ntCut_any p _ 0 1 false HO4.out).mono ?_
  rintro e w5 ⟨rfl, ho⟩
  rw [show errV (ntCutErr 0 1) = .nilIface from rfl]
  rw [F6.out] at ho
  have HO5 := Lib.hid ho
  clear ho
  go_wp2_with fail
  refine (ntGive_any p _ 0 I1.out HO5.out).mono ?_
  rintro e w6 ⟨rfl, ho⟩
  rw [F7.out, errV0, F8.out]
  rw [F9.out] at ho
  unfold evV nkP
  dsimp only
  obtain ⟨b7, hb_b7⟩ : ∃ zz_, zz_ = (w6).heap.size := ⟨_, rfl⟩
  obtain ⟨w7, hw_w7⟩ : ∃ zz_, zz_ = (w6).alloc (.cells #[.int .i64 0, .int .i64 1, .int .i64 3] 23 (0, 0)) := ⟨_, rfl⟩
  have h_HB7 := (ho).alloc (.cells #[.int .i64 0, .int .i64 1, .int .i64 3] 23 (0, 0))
  rw [← hb_b7, ← hw_w7] at h_HB7
  have HB7 := Lib.hid h_HB7
  clear h_HB7
  have HO7 : Hid (Own w (NtP p ⟨[], []⟩ * (PkO b7 (0, 1, 3) * emp)) w7) := Lib.hid (HB7.out.perm (by unfold PkO; ac_rfl))
  obtain ⟨x0, x1, x2⟩ := HO7.out.second.pk
  simp only at x0 x1 x2
  clear ho HB7 HO1 HO2 HO3 HO4 HO5
  go_upto_region 7 with fail
  rw [← hb_b7, ← hw_w7]
  clear hb_b7 hw_w7
  go_wp2_with fail
  refine (sameErr_any HG.out 6 6 HO7.out).mono ?_
  rintro e w8 ⟨rfl, ho⟩
  obtain ⟨y0, y1, y2⟩ := ho.second.pk
  simp only at y0 y1 y2
  have HO8 := Lib.hid ho
  clear ho x0 x1 x2
  go_wp2_with fail
  refine (ntAll_any p _ I0.out HO8.out).mono ?_
  rintro e w9 ⟨v9, rfl, ho⟩
  obtain ⟨ad9, cp9, hv9, _⟩ := Own.rd ho
  subst hv9
  have HO9 : Hid (Own w (NtP p ⟨[], []⟩ * emp) w9) := Lib.hid ho.drop.second.drop
  clear ho y0 y1 y2
  dsimp only [List.length_nil]
  clear F1 F2 F3 F4 F5 F6 F7 F8 F9 I1 I2 HO8 HO7
  go_wp2_with fail
  go_loopw [14, 13] (fun iv mv wr => ∃ (k : Nat) (s : Nt), k ≤ steps.length ∧ iv = .int .i64 k ∧ mv = .int .i64 (s.all.length : Nat) ∧ Hid (NtI s) ∧ Hid (Own w (NtP p s * emp) wr)) (fun iv _ _ => 120 - (intOf iv).toNat)
  case atStart => exact ⟨0, ⟨[], []⟩, Nat.zero_le _, rfl, rfl, I0, HO9⟩
  case round =>
    obtain ⟨k, s, hk, rfl, rfl, HI, HP⟩ := hrel
    by_cases h1 : k < steps.length
    rotate_left
    · go_wp2
      go_ret
      exact ⟨rfl, HP.out.below⟩
    by_cases h2 : k < 120
    rotate_left
    · go_wp2
      go_ret
      exact ⟨rfl, HP.out.below⟩
    obtain ⟨a, rfl, hc⟩ := HS.out.at_later k h1
    have c1 := hc _ _ HP.out
    obtain ⟨K, hK⟩ : ∃ x, x = steps[k] := ⟨_, rfl⟩
    rw [← hK] at c1
    have HK := Lib.hid hK; have HC := Lib.hid hc
    clear hK hc
    go_upto_block 2 with fail
    go_cut [13] (fun mv wx => ∃ s' : Nt, mv = .int .i64 (s'.all.length : Nat) ∧ NtI s' ∧ Own w (NtP p s' * emp) wx)
    case first =>
      refine nkStep w s HI.out K _ HN.out ⟨hlc, hlcap⟩ HL HP ?_
      intros
      go_step
      go_step
      go_meet
      assumption
    case rest =>
    obtain ⟨s', rfl, hi, ho⟩ := hcut
    have hlen := hi.len
    have tll : ((s'.all.length : Int) != (s'.all.length : Int)) = false := by rw [bne_eq_false_iff_eq]
    have t40 : decide ((40 : Int) < (s'.all.length : Int)) = false := decide_eq_false (by omega)
    have HI2 := Lib.hid hi
    have HP2 := Lib.hid ho
    clear hi ho HP HI c1
    go_wp2_with fail
    refine (ntAll_any p _ HI2.out HP2.out).mono ?_
    rintro e w3 ⟨v3, rfl, ho⟩
    obtain ⟨ad3, cp3, hv3, _⟩ := Own.rd ho
    subst hv3
    have HP3 := Lib.hid ho.drop
    clear ho
    go_wp2_with fail
    go_roundw
    case rel => exact ⟨k + 1, s', by omega, by go_num, rfl, HI2, HP3⟩
    case measure => simp [intOf]; omega
end Go.Proofs.YtldmdenojpnldaaDoor
