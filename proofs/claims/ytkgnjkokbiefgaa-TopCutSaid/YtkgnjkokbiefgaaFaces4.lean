/- Contracts of package faces, continued: pairs of words. -/
import Derived.Test.YtkgnjkokbiefgaaFaces3
import Derived.Test.YtkgnjkokbiefgaaClockP
namespace Go.Proofs.Ytkgnjkokbiefgaa
set_option linter.unusedVariables false
set_option linter.unusedSimpArgs false
open Go.RowKit
def skipB (h : List Ev) (k i : Nat) : Bool := decide ((evAt h i).2.1 ≠ 2) || (decide ((evAt h k).2.1 ≠ 2) || (!bef h k i || aheadB h (evAt h i).2.2 (evAt h k).2.2))
def fifoOk (h : List Ev) (k i : Nat) : Bool := skipB h k i || decide ((evAt h i).1 ≠ (evAt h k).1)
def upTo (p : Nat → Bool) (n : Nat) : Bool := (List.range n).all p
theorem upTo_zero (p : Nat → Bool) : upTo p 0 = true := rfl
theorem upTo_step (p : Nat → Bool) (n : Nat) : upTo p (n + 1) = (upTo p n && p n) := by unfold upTo; rw [List.range_succ, List.all_append]; simp
theorem upTo_iff (p : Nat → Bool) (n : Nat) : upTo p n = true ↔ ∀ i, i < n → p i = true := by unfold upTo; simp
def FaO (b : Nat) (f c t : Bool) : HProp := blk b (.cells #[.bool f, .bool c, .bool t] 83 (0, 0))
theorem Own.fa {w0 w : World} {b : Nat} {f c t : Bool} {R : HProp} (h : Own w0 (FaO b f c t * R) w) : w.cell? ⟨b, 0, none⟩ = some (.bool f) ∧ w.cell? ⟨b, 1, none⟩ = some (.bool c) ∧ w.cell? ⟨b, 2, none⟩ = some (.bool t) ∧ ∀ i s, w.frozen? ⟨b, i, s⟩ = false :=
  ⟨(Own.cell h 0).trans rfl, (Own.cell h 1).trans rfl, (Own.cell h 2).trans rfl, fun i s => Own.free h i s⟩
theorem Own.fa0 {w0 w : World} {b : Nat} {f c t : Bool} {R : HProp} (x : Bool) (h : Own w0 (FaO b f c t * R) w) : Own w0 (FaO b x c t * R) (w.setCell ⟨b, 0, none⟩ (.bool x)) := Own.setCell (i := 0) (v := .bool x) h
theorem Own.fa1 {w0 w : World} {b : Nat} {f c t : Bool} {R : HProp} (x : Bool) (h : Own w0 (FaO b f c t * R) w) : Own w0 (FaO b f x t * R) (w.setCell ⟨b, 1, none⟩ (.bool x)) := Own.setCell (i := 1) (v := .bool x) h
theorem Own.fa2 {w0 w : World} {b : Nat} {f c t : Bool} {R : HProp} (x : Bool) (h : Own w0 (FaO b f c t * R) w) : Own w0 (FaO b f c x * R) (w.setCell ⟨b, 2, none⟩ (.bool x)) := Own.setCell (i := 2) (v := .bool x) h
noncomputable def faPairs_code : Code := ((Try.f40.body.bind (findBlock 2)).getD .skip)
set_option maxRecDepth 1000000 in
set_option maxHeartbeats 4000000 in
theorem faPairs {Q : Exit → Act → World → Prop} {u1 u2 u3 u4 u9 u10 u11 u12 u13 u14 u15 u16 u17 u18 u19 u20 u21 u22 u23 u24 u25 u26 u27 u28 u29 u30 u34 u35 u36 u37 u38 u39 u40 u41 u42 u43 u44 u45 u46 u47 u48 u49 u50 u51 u52 u53 u54 u55 u56 u57 u58 u59 u60 u61 u62 u63 u64 u65 u66 u67 u68 u69 u70 u71 u72 u73 u74 u75 u76 u77 u78 u79 u80 u81 u82 u83 u84 u85 u86 u87 u88 u89 u90 u91 u92 u93 u94 u95 u96 u97 u98 : Value} {w1 : World} (w : World) (R : HProp) (fb rb n k eb hcap : Nat) (had : Option Addr) (hs : List Ev) (x : Ev) (rs : List (Value × List Bool)) (f c t : Bool) (hk : k < n) (hn : n ≤ 60) (hc1 : n ≤ hcap) (hc2 : hcap ≤ 9223372036854775807) (HLN : Hid (hs.length = n)) (HX : Hid (x = evAt hs k)) (HV : Hid (ReadsE w R (.slice had n hcap) hs)) (HM : Hid (rs.map (·.2) = pastsR hs n)) (HP : Hid (Own w (FaO fb f c t * (EvO eb x * (BTab rb n rs * R))) w1))
    (hK : ∀ (v9 v10 v33 v34 v35 v36 v37 v38 v39 v40 v41 v42 v43 v44 v45 v46 v47 v48 v49 v50 v51 v52 v53 v54 v55 v56 v57 v58 v59 v60 v61 v62 v63 v64 v65 v66 v67 v68 v69 v70 v71 v72 v73 v74 v75 : Value) (wx : World), (Own w (FaO fb (f && upTo (fifoOk hs k) k) (c && upTo (skipB hs k) k) t * (EvO eb x * (BTab rb n rs * R))) wx) → Q .normal ⟨List.toArray ((.slice had n hcap) :: u1 :: u2 :: u3 :: u4 :: (.pointer (some ⟨fb, 0, none⟩)) :: (.slice (some ⟨rb, 0, none⟩) n n) :: (.int .i64 (k : Int)) :: (.pointer (some ⟨eb, 0, none⟩)) :: v9 :: v10 :: u11 :: u12 :: u13 :: u14 :: u15 :: u16 :: u17 :: u18 :: u19 :: u20 :: u21 :: u22 :: u23 :: u24 :: u25 :: u26 :: u27 :: u28 :: u29 :: u30 :: (.slice had k hcap) :: (.int .i64 (k : Int)) :: v33 :: v34 :: v35 :: v36 :: v37 :: v38 :: v39 :: v40 :: v41 :: v42 :: v43 :: v44 :: v45 :: v46 :: v47 :: v48 :: v49 :: v50 :: v51 :: v52 :: v53 :: v54 :: v55 :: v56 :: v57 :: v58 :: v59 :: v60 :: v61 :: v62 :: v63 :: v64 :: v65 :: v66 :: v67 :: v68 :: v69 :: v70 :: v71 :: v72 :: v73 :: v74 :: v75 :: u76 :: u77 :: u78 :: u79 :: u80 :: u81 :: u82 :: u83 :: u84 :: u85 :: u86 :: u87 :: u88 :: u89 :: u90 :: u91 :: u92 :: u93 :: u94 :: u95 :: u96 :: u97 :: u98 :: []), []⟩ wx) :
    Code.wp Try.prog faPairs_code Q ⟨List.toArray ((.slice had n hcap) :: u1 :: u2 :: u3 :: u4 :: (.pointer (some ⟨fb, 0, none⟩)) :: (.slice (some ⟨rb, 0, none⟩) n n) :: (.int .i64 (k : Int)) :: (.pointer (some ⟨eb, 0, none⟩)) :: u9 :: u10 :: u11 :: u12 :: u13 :: u14 :: u15 :: u16 :: u17 :: u18 :: u19 :: u20 :: u21 :: u22 :: u23 :: u24 :: u25 :: u26 :: u27 :: u28 :: u29 :: u30 :: (.slice had k hcap) :: (.int .i64 (k : Int)) :: (.int .i64 0) :: u34 :: u35 :: u36 :: u37 :: u38 :: u39 :: u40 :: u41 :: u42 :: u43 :: u44 :: u45 :: u46 :: u47 :: u48 :: u49 :: u50 :: u51 :: u52 :: u53 :: u54 :: u55 :: u56 :: u57 :: u58 :: u59 :: u60 :: u61 :: u62 :: u63 :: u64 :: u65 :: u66 :: u67 :: u68 :: u69 :: u70 :: u71 :: u72 :: u73 :: u74 :: u75 :: u76 :: u77 :: u78 :: u79 :: u80 :: u81 :: u82 :: u83 :: u84 :: u85 :: u86 :: u87 :: u88 :: u89 :: u90 :: u91 :: u92 :: u93 :: u94 :: u95 :: u96 :: u97 :: u98 :: []), []⟩ w1 := by
  conv => arg 2; whnf
  have HK := Lib.hid hK
  clear hK
  have HAH := Lib.hid (fun (R' : HProp) (w1 : World) (a b : Int) (ho : Own w (R' * R) w1) => ahead_any (.slice had n hcap) hs a b ho HV.out.more (by rw [HLN.out]; exact hn))
  go_wp2_with fail
  go_loopw [33] (fun iv wr => ∃ i : Nat, i ≤ k ∧ iv = .int .i64 i ∧ Hid (Own w (FaO fb (f && upTo (fifoOk hs k) i) (c && upTo (skipB hs k) i) t * (EvO eb x * (BTab rb n rs * R))) wr)) (fun iv _ => k - (intOf iv).toNat)
  case atStart => exact ⟨0, Nat.zero_le _, rfl, Lib.hid (by rw [upTo_zero, upTo_zero, Bool.and_true, Bool.and_true]; exact HP.out)⟩
  case round =>
    clear HP
    obtain ⟨i, hi, rfl, HO⟩ := hrel
    by_cases hlt : i < k
    rotate_left
    · have hik : i = k := by omega
      subst hik
      go_wp2_with fail
      apply HK.out
      exact HO.out
    have hlt2 : i < (hs.take k).length := by simp; rw [HLN.out]; omega
    obtain ⟨aa, pb, po, ps, rfl, hea, hcs, _⟩ := (HV.out.front (show k ≤ n by omega)).more.more.more.at HO.out i hlt2
    rw [evAt_take hlt] at hcs
    obtain ⟨p, hp⟩ : ∃ p, p = evAt hs i := ⟨_, rfl⟩
    rw [← hp] at hcs
    obtain ⟨c0, c1, c2⟩ := hcs _ HO.out
    have hS : skipB hs k i = (decide (p.2.1 ≠ 2) || (decide (x.2.1 ≠ 2) || (!bef hs k i || aheadB hs p.2.2 x.2.2))) := by rw [hp, HX.out]; rfl
    have hF : fifoOk hs k i = (skipB hs k i || decide (p.1 ≠ x.1)) := by rw [hp, HX.out]; rfl
    have hu1 := upTo_step (fifoOk hs k) i
    have hu2 := upTo_step (skipB hs k) i
    obtain ⟨S, hSS⟩ : ∃ S, S = skipB hs k i := ⟨_, rfl⟩
    obtain ⟨f', hf'⟩ : ∃ f', f' = (f && upTo (fifoOk hs k) i) := ⟨_, rfl⟩
    obtain ⟨c', hc'⟩ : ∃ c', c' = (c && upTo (skipB hs k) i) := ⟨_, rfl⟩
    have hun1 : (f && upTo (fifoOk hs k) (i + 1)) = (f' && fifoOk hs k i) := by rw [hu1, hf', Bool.and_assoc]
    have hun2 : (c && upTo (skipB hs k) (i + 1)) = (c' && S) := by rw [hu2, hc', Bool.and_assoc, hSS]
    rw [hF, ← hSS] at hun1
    rw [← hSS] at hS
    have ho := HO.out
    rw [← hf', ← hc'] at ho
    -- the row of k
    have hrow : (pastsR hs n)[k]? = some ((pastsR hs n).getD k []) := by
      rw [List.getD_eq_getElem?_getD, List.getElem?_eq_getElem (by rw [pastsR_len]; omega)]; rfl
    obtain ⟨cv, hcv⟩ := map_at HM.out hrow
    obtain ⟨r, hr⟩ : ∃ r, r = (pastsR hs n).getD k [] := ⟨_, rfl⟩
    have hrl : r.length = n := by
      rw [hr, pastsR_row hs n _ (by rw [List.getD_eq_getElem?_getD, List.getElem?_eq_getElem (by rw [pastsR_len]; omega)]; exact List.getElem_mem _)]
      exact HLN.out
    rw [← hr] at hcv
    have hbr : r[i]? = some (bef hs k i) := by unfold bef; rw [HLN.out, ← hr, List.getD_eq_getElem?_getD, List.getElem?_eq_getElem (by omega)]; rfl
    obtain ⟨y, hy⟩ : ∃ y, y = bef hs k i := ⟨_, rfl⟩
    rw [← hy] at hbr hS
    obtain ⟨p1, p2, p3⟩ := p
    obtain ⟨x1, x2, x3⟩ := x
    simp only at c0 c1 c2 hS hun1
    obtain ⟨qb, hb_qb⟩ : ∃ zz_, zz_ = (wr).heap.size := ⟨_, rfl⟩
    obtain ⟨w2, hw_w2⟩ : ∃ zz_, zz_ = (wr).alloc (.cells #[.int .i64 p1, .int .i64 p2, .int .i64 p3] 49 (0, 0)) := ⟨_, rfl⟩
    have h_HO1 := (ho).alloc (.cells #[.int .i64 p1, .int .i64 p2, .int .i64 p3] 49 (0, 0))
    rw [← hb_qb, ← hw_w2] at h_HO1
    have HO1 := Lib.hid h_HO1
    clear h_HO1
    have HE1 : Hid (Own w (EvO qb (p1, p2, p3) * (FaO fb f' c' t * (EvO eb (x1, x2, x3) * (BTab rb n rs * R)))) w2) := HO1
    clear HO1
    have HB1 : Hid (Own w (BTab rb n rs * (EvO qb (p1, p2, p3) * (FaO fb f' c' t * (EvO eb (x1, x2, x3) * R)))) w2) := Lib.hid (HE1.out.perm (by ac_rfl))
    obtain ⟨d0, d1, d2⟩ := HE1.out.ev
    obtain ⟨e0, e1, e2⟩ := (HE1.out.perm (show _ = EvO eb (x1, x2, x3) * (EvO qb (p1, p2, p3) * (FaO fb f' c' t * (BTab rb n rs * R))) by ac_rfl)).ev
    simp only at d0 d1 d2 e0 e1 e2
    obtain ⟨cb, co, ccap, rfl⟩ := HB1.out.bt_shape hcv (by omega)
    obtain ⟨_, g2, g3, _, g5, _⟩ := HB1.out.bt_put hcv rfl (by omega)
    have b1 := HB1.out.bt_cell hcv
    have b2 := g5 i _ hbr
    rw [hrl] at b1 g2
    have i0 : (0 : Int) ≤ (i : Int) := by omega
    have ik : (i : Int) < (k : Int) := by omega
    have i1 : (i : Int) < (n : Int) := by omega
    have k0 : (0 : Int) ≤ (k : Int) := by omega
    have k1 : (k : Int) < (n : Int) := by omega
    have HHP := Lib.hid hp
    have HCS := Lib.hid hcs; have HS := Lib.hid hS; have HF := Lib.hid hF; have HU1 := Lib.hid hu1; have HU2 := Lib.hid hu2; have HSS := Lib.hid hSS; have HF' := Lib.hid hf'; have HC' := Lib.hid hc'; have HUN1 := Lib.hid hun1; have HUN2 := Lib.hid hun2; have HROW := Lib.hid hrow; have HCV := Lib.hid hcv; have HR := Lib.hid hr; have HRL := Lib.hid hrl; have HBR := Lib.hid hbr; have HY := Lib.hid hy; have HO := Lib.hid ho; have G5 := Lib.hid g5
    clear hcs hS hF hu1 hu2 hSS hf' hc' hun1 hun2 hrow hcv hr hrl hbr hy ho g5
    clear hp
    go_upto_region 12 with fail
    rw [← hb_qb, ← hw_w2]
    clear hb_qb hw_w2
    clear c0 c1 c2
    go_cut [63] from 38 to 38 (fun tv wx => tv = .bool S ∧ Own w (EvO qb (p1, p2, p3) * (FaO fb f' c' t * (EvO eb (x1, x2, x3) * (BTab rb n rs * R)))) wx)
    case first =>
      by_cases a1 : p2 = 2
      rotate_left
      · have t1 : (p2 != 2) = true := by simpa using a1
        have hs1 : S = true := by rw [HS.out]; simp [a1]
        have A1 := Lib.hid a1; have HS1 := Lib.hid hs1
        clear a1 hs1
        go_wp2_with fail
        go_meet
        exact ⟨by rw [HS1.out], HE1.out⟩
      have t1 : (p2 != 2) = false := by simpa using a1
      by_cases a2 : x2 = 2
      rotate_left
      · have t2 : (x2 != 2) = true := by simpa using a2
        have hs1 : S = true := by rw [HS.out]; simp [a2]
        have A1 := Lib.hid a1; have A2 := Lib.hid a2; have HS1 := Lib.hid hs1
        clear a1 a2 hs1
        go_wp2_with fail
        go_meet
        exact ⟨by rw [HS1.out], HE1.out⟩
      have t2 : (x2 != 2) = false := by simpa using a2
      cases y
      · have hs1 : S = true := by rw [HS.out]; simp
        have A1 := Lib.hid a1; have A2 := Lib.hid a2; have HS1 := Lib.hid hs1
        clear a1 a2 hs1
        go_wp2_with fail
        go_meet
        exact ⟨by rw [HS1.out], HE1.out⟩
      · have hs1 : S = aheadB hs p3 x3 := by rw [HS.out]; simp [a1, a2]
        have A1 := Lib.hid a1; have A2 := Lib.hid a2; have HS1 := Lib.hid hs1
        clear a1 a2 hs1
        go_wp2_with fail
        refine (HAH.out (EvO qb (p1, p2, p3) * (FaO fb f' c' t * (EvO eb (x1, x2, x3) * BTab rb n rs))) w2 p3 x3 (HE1.out.perm (by ac_rfl))).mono ?_
        rintro e w3 ⟨rfl, ho⟩
        rw [← HS1.out]
        have HO3 : Hid (Own w (EvO qb (p1, p2, p3) * (FaO fb f' c' t * (EvO eb (x1, x2, x3) * (BTab rb n rs * R)))) w3) := Lib.hid (ho.perm (by ac_rfl))
        clear ho
        go_wp2_with fail
        go_meet
        exact ⟨rfl, HO3.out⟩
    case rest =>
    obtain ⟨rfl, ho⟩ := hcut
    clear HE1 HB1 d0 d1 d2 e0 e1 e2 b1 b2
    cases S
    rotate_left
    · have HN2 : Hid (Own w (FaO fb (f && upTo (fifoOk hs k) (i + 1)) (c && upTo (skipB hs k) (i + 1)) t * (EvO eb (x1, x2, x3) * (BTab rb n rs * R))) wc) := Lib.hid (by rw [HUN1.out, HUN2.out, Bool.true_or, Bool.and_true, Bool.and_true]; exact ho.drop)
      clear ho
      go_wp2_with fail
      go_roundw
      case rel => exact ⟨i + 1, by omega, by go_num, HN2⟩
      case measure => simp [intOf]; omega
    · have hf : Own w (FaO fb f' c' t * (EvO qb (p1, p2, p3) * (EvO eb (x1, x2, x3) * (BTab rb n rs * R)))) wc := ho.perm (by ac_rfl)
      obtain ⟨g0, g1, _, g4⟩ := hf.fa
      have hf1 := hf.fa1 false
      obtain ⟨wd, hwd⟩ : ∃ wd, wd = wc.setCell ⟨fb, 1, none⟩ (.bool false) := ⟨_, rfl⟩
      rw [← hwd] at hf1
      have HF1 := Lib.hid hf1
      clear hf1 ho hf
      go_upto_region 14 with fail
      rw [← hwd]
      clear hwd g0 g1 g4
      obtain ⟨g0, _, _, g4⟩ := HF1.out.fa
      obtain ⟨d0, _, _⟩ := (HF1.out.perm (star_left_comm _ _ _)).ev
      obtain ⟨e0, _, _⟩ := (HF1.out.perm (show _ = EvO eb (x1, x2, x3) * (FaO fb f' false t * (EvO qb (p1, p2, p3) * (BTab rb n rs * R))) by ac_rfl)).ev
      simp only at d0 e0
      obtain ⟨z, hz⟩ : ∃ z, z = (f' && (p1 != x1)) := ⟨_, rfl⟩
      have hst := HF1.out.fa0 z
      have HN2 : Hid (Own w (FaO fb (f && upTo (fifoOk hs k) (i + 1)) (c && upTo (skipB hs k) (i + 1)) t * (EvO eb (x1, x2, x3) * (BTab rb n rs * R))) (wd.setCell ⟨fb, 0, none⟩ (.bool z))) := Lib.hid (by
        rw [HUN1.out, HUN2.out, Bool.and_false, Bool.false_or, show (f' && decide (p1 ≠ x1)) = z by rw [hz]; by_cases a : p1 = x1 <;> simp [a]]
        exact (hst.perm (show _ = EvO qb (p1, p2, p3) * (FaO fb z false t * (EvO eb (x1, x2, x3) * (BTab rb n rs * R))) by ac_rfl)).drop)
      clear hst
      cases f'
      · rw [Bool.false_and] at hz
        subst hz
        go_wp2_with fail
        go_roundw
        case rel => exact ⟨i + 1, by omega, by go_num, HN2⟩
        case measure => simp [intOf]; omega
      · rw [Bool.true_and] at hz
        subst hz
        go_wp2_with fail
        go_roundw
        case rel => exact ⟨i + 1, by omega, by go_num, HN2⟩
        case measure => simp [intOf]; omega
end Go.Proofs.Ytkgnjkokbiefgaa
