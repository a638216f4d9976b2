/- Contracts of package faces, continued: pairs of words. -/
import Derived.Test.YtgjjilehpgnjhaaDoorMHistoryTells8
import Derived.Test.YtgjjilehpgnjhaaDoorMHistoryTells4
import Derived.Deep.WholeRow
namespace Go.Proofs.YtgjjilehpgnjhaaDoor
set_option linter.unusedVariables false
set_option linter.unusedSimpArgs false
open Go.RowKit
def skipB (h : List Ev) (k i : Nat) : Bool := decide ((evAt h i).2.1 ≠ 2) || (decide ((evAt h k).2.1 ≠ 2) || (!bef h k i || aheadB h (evAt h i).2.2 (evAt h k).2.2))
def fifoOk (h : List Ev) (k i : Nat) : Bool := skipB h k i || decide ((evAt h i).1 ≠ (evAt h k).1)
def upTo (p : Nat → Bool) (n : Nat) : Bool := (List.range n).all p
theorem upTo_zero (p : Nat → Bool) : upTo p 0 = true := rfl
theorem upTo_step (p : Nat → Bool) (n : Nat) : upTo p (n + 1) = (upTo p n && p n) := by unfold upTo; rw [List.range_succ, List.all_append]; simp
theorem upTo_iff (p : Nat → Bool) (n : Nat) : upTo p n = true ↔ ∀ i, i < n → p i = true := by unfold upTo; simp
def FaO (b : Nat) (f c t : Bool) : HProp := blk b (.cells #[.bool f, .bool c, .bool t] 56 (0, 0))
theorem Own.fa {w0 w : World} {b : Nat} {f c t : Bool} {R : HProp} (h : Own w0 (FaO b f c t * R) w) : w.cell? ⟨b, 0, none⟩ = some (.bool f) ∧ w.cell? ⟨b, 1, none⟩ = some (.bool c) ∧ w.cell? ⟨b, 2, none⟩ = some (.bool t) ∧ ∀ i s, w.frozen? ⟨b, i, s⟩ = false :=
  ⟨(Own.cell h 0).trans rfl, (Own.cell h 1).trans rfl, (Own.cell h 2).trans rfl, fun i s => Own.free h i s⟩
theorem Own.fa0 {w0 w : World} {b : Nat} {f c t : Bool} {R : HProp} (x : Bool) (h : Own w0 (FaO b f c t * R) w) : Own w0 (FaO b x c t * R) (w.setCell ⟨b, 0, none⟩ (.bool x)) := Own.setCell (i := 0) (v := .bool x) h
theorem Own.fa1 {w0 w : World} {b : Nat} {f c t : Bool} {R : HProp} (x : Bool) (h : Own w0 (FaO b f c t * R) w) : Own w0 (FaO b f x t * R) (w.setCell ⟨b, 1, none⟩ (.bool x)) := Own.setCell (i := 1) (v := .bool x) h
theorem Own.fa2 {w0 w : World} {b : Nat} {f c t : Bool} {R : HProp} (x : Bool) (h : Own w0 (FaO b f c t * R) w) : Own w0 (FaO b f c x * R) (w.setCell ⟨b, 2, none⟩ (.bool x)) := Own.setCell (i := 2) (v := .bool x) h
noncomputable def faPairs_code : Code := ((Tryd.f27.body.bind (findBlock 2)).getD .skip)
set_option maxRecDepth 1000000 in
set_option maxHeartbeats 4000000 in
theorem faPairs {Q : Exit → Act → World → Prop} {u1 u2 u3 u4 u9 u10 u11 u12 u13 u14 u15 u16 u17 u18 u19 u20 u21 u22 u23 u24 u25 u26 u27 u28 u29 u30 u34 u35 u36 u37 u38 u39 u40 u41 u42 u43 u44 u45 u46 u47 u48 u49 u50 u51 u52 u53 u54 u55 u56 u57 u58 u59 u60 u61 u62 u63 u64 u65 u66 u67 u68 u69 u70 u71 u72 u73 u74 u75 u76 u77 u78 u79 u80 u81 u82 u83 u84 u85 u86 u87 u88 u89 u90 u91 u92 u93 u94 u95 u96 u97 u98 : Value} {w1 : World} (w : World) (R : HProp) (fb rb n k eb hcap : Nat) (had : Option Addr) (hs : List Ev) (x : Ev) (rs : List (Value × List Bool)) (f c t : Bool) (hk : k < n) (hn : n ≤ 60) (hc1 : n ≤ hcap) (hc2 : hcap ≤ 9223372036854775807) (HLN : Hid (hs.length = n)) (HX : Hid (x = evAt hs k)) (HV : Hid (ReadsE w R (.slice had n hcap) hs)) (HM : Hid (rs.map (·.2) = pastsR hs n)) (HP : Hid (Own w (FaO fb f c t * (EvO eb x * (BTab rb n rs * R))) w1))
    (hK : ∀ (v9 v10 v33 v34 v35 v36 v37 v38 v39 v40 v41 v42 v43 v44 v45 v46 v47 v48 v49 v50 v51 v52 v53 v54 v55 v56 v57 v58 v59 v60 v61 v62 v63 v64 v65 v66 v67 v68 v69 v70 v71 v72 v73 v74 v75 : Value) (wx : World), (Own w (FaO fb (f && upTo (fifoOk hs k) k) (c && upTo (skipB hs k) k) t * (EvO eb x * (BTab rb n rs * R))) wx) → Q .normal ⟨List.toArray ((.slice had n hcap) :: u1 :: u2 :: u3 :: u4 :: (.pointer (some ⟨fb, 0, none⟩)) :: (.slice (some ⟨rb, 0, none⟩) n n) :: (.int .i64 (k : Int)) :: (.pointer (some ⟨eb, 0, none⟩)) :: v9 :: v10 :: u11 :: u12 :: u13 :: u14 :: u15 :: u16 :: u17 :: u18 :: u19 :: u20 :: u21 :: u22 :: u23 :: u24 :: u25 :: u26 :: u27 :: u28 :: u29 :: u30 :: (.slice had k hcap) :: (.int .i64 (k : Int)) :: v33 :: v34 :: v35 :: v36 :: v37 :: v38 :: v39 :: v40 :: v41 :: v42 :: v43 :: v44 :: v45 :: v46 :: v47 :: v48 :: v49 :: v50 :: v51 :: v52 :: v53 :: v54 :: v55 :: v56 :: v57 :: v58 :: v59 :: v60 :: v61 :: v62 :: v63 :: v64 :: v65 :: v66 :: v67 :: v68 :: v69 :: v70 :: v71 :: v72 :: v73 :: v74 :: v75 :: u76 :: u77 :: u78 :: u79 :: u80 :: u81 :: u82 :: u83 :: u84 :: u85 :: u86 :: u87 :: u88 :: u89 :: u90 :: u91 :: u92 :: u93 :: u94 :: u95 :: u96 :: u97 :: u98 :: []), []⟩ wx) :
    Code.wp Tryd.prog faPairs_code Q ⟨List.toArray ((.slice had n hcap) :: u1 :: u2 :: u3 :: u4 :: (.pointer (some ⟨fb, 0, none⟩)) :: (.slice (some ⟨rb, 0, none⟩) n n) :: (.int .i64 (k : Int)) :: (.pointer (some ⟨eb, 0, none⟩)) :: u9 :: u10 :: u11 :: u12 :: u13 :: u14 :: u15 :: u16 :: u17 :: u18 :: u19 :: u20 :: u21 :: u22 :: u23 :: u24 :: u25 :: u26 :: u27 :: u28 :: u29 :: u30 :: (.slice had k hcap) :: (.int .i64 (k : Int)) :: (.int .i64 0) :: u34 :: u35 :: u36 :: u37 :: u38 :: u39 :: u40 :: u41 :: u42 :: u43 :: u44 :: u45 :: u46 :: u47 :: u48 :: u49 :: u50 :: u51 :: u52 :: u53 :: u54 :: u55 :: u56 :: u57 :: u58 :: u59 :: u60 :: u61 :: u62 :: u63 :: u64 :: u65 :: u66 :: u67 :: u68 :: u69 :: u70 :: u71 :: u72 :: u73 :: u74 :: u75 :: u76 :: u77 :: u78 :: u79 :: u80 :: u81 :: u82 :: u83 :: u84 :: u85 :: u86 :: u87 :: u88 :: u89 :: u90 :: u91 :: u92 :: u93 :: u94 :: u95 :: u96 :: u97 :: u98 :: []), []⟩ w1 := by
  conv => arg 2; whnf
  have HK := Lib.hid hK
  clear hK
  have HAH := Lib.hid (fun (R' : HProp) (w1 : World) (a b : Int) (ho : Own w (R' * R) w1) => ahead_any (.slice had n hcap) hs a b ho HV.out.more (by rw [HLN.out]; exact hn))
  go_wp2_with fail
  go_loopw [33] (fun iv wr => ∃ i : Nat, i ≤ k ∧ iv = .int .i64 i ∧ Hid (Own w (FaO fb (f && upTo (fifoOk hs k) i) (c && upTo (skipB hs k) i) t * (EvO eb x * (BTab rb n rs * R))) wr)) (fun iv _ => k - (intOf iv).toNat)
  case atStart => exact ⟨0, Nat.zero_le _, rfl, Lib.hid (by rw [upTo_zero, upTo_zero, Bool.and_true, Bool.and_true]; exact HP.out)⟩
  case round =>
    clear HP
    obtain ⟨i, hi, rfl, HO⟩ := hrel
    by_cases hlt : i < k
    rotate_left
    · have hik : i = k := by omega
      subst hik
      go_wp2_with fail
      apply HK.out
      exact HO.out
    have hlt2 : i < (hs.take k).length := by simp; rw [HLN.out]; omega
    obtain ⟨aa, pb, po, ps, rfl, hea, hcs, _⟩ := (HV.out.front (show k ≤ n by omega)).more.more.more.at HO.out i hlt2
    rw [evAt_take hlt] at hcs
    obtain ⟨p, hp⟩ : ∃ p, p = evAt hs i := ⟨_, rfl⟩
    rw [← hp] at hcs
    obtain ⟨c0, c1, c2⟩ := hcs _ HO.out
    have hS : skipB hs k i = (decide (p.2.1 ≠ 2) || (decide (x.2.1 ≠ 2) || (!bef hs k i || aheadB hs p.2.2 x.2.2))) := by rw [hp, HX.out]; rfl
    have hF : fifoOk hs k i = (skipB hs k i || decide (p.1 ≠ x.1)) := by rw [hp, HX.out]; rfl
    have hu1 := upTo_step (fifoOk hs k) i
    have hu2 := upTo_step (skipB hs k) i
    obtain ⟨S, hSS⟩ : ∃ S, S = skipB hs k i := ⟨_, rfl⟩
    obtain ⟨f', hf'⟩ : ∃ f', f' = (f && upTo (fifoOk hs k) i) := ⟨_, rfl⟩
    obtain ⟨c', hc'⟩ : ∃ c', c' = (c && upTo (skipB hs k) i) := ⟨_, rfl⟩
    have hun1 : (f && upTo (fifoOk hs k) (i + 1)) = (f' && fifoOk hs k i) := by rw [hu1, hf', Bool.and_assoc]
    have hun2 : (c && upTo (skipB hs k) (i + 1)) = (c' && S) := by rw [hu2, hc', Bool.and_assoc, hSS]
    rw [hF, ← hSS] at hun1
    rw [← hSS] at hS
    have ho := HO.out
    rw [← hf', ← hc'] at ho
    -- the row of k
    have hrow : (pastsR hs n)[k]? = some ((pastsR hs n).getD k []) := by
      rw [List.getD_eq_getElem?_getD, List.getElem?_eq_getElem (by rw [pastsR_len]; omega)]; rfl
    obtain ⟨cv, hcv⟩ := map_at HM.out hrow
    obtain ⟨r, hr⟩ : ∃ r, r = (pastsR hs n).getD k [] := ⟨_, rfl⟩
    have hrl : r.length = n := by
      rw [hr, pastsR_row hs n _ (by rw [List.getD_eq_getElem?_getD, List.getElem?_eq_getElem (by rw [pastsR_len]; omega)]; exact List.getElem_mem _)]
      exact HLN.out
    rw [← hr] at hcv
    have hbr : r[i]? = some (bef hs k i) := by unfold bef; rw [HLN.out, ← hr, List.getD_eq_getElem?_getD, List.getElem?_eq_getElem (by omega)]; rfl
    obtain ⟨y, hy⟩ : ∃ y, y = bef hs k i := ⟨_, rfl⟩
    rw [← hy] at hbr hS
    obtain ⟨p1, p2, p3⟩ := p
    obtain ⟨x1, x2, x3⟩ := x
    simp only at c0 c1 c2 hS hun1
    obtain ⟨qb, hb_qb⟩ : ∃ zz_, zz_ = (wr).heap.size := ⟨_, rfl⟩
    obtain ⟨w2, hw_w2⟩ : ∃ zz_, zz_ = (wr).alloc (.cells #[.int .i64 p1, .int .i64 p2, .int .i64 p3] 28 (0, 0)) := ⟨_, rfl⟩
    have h_HO1 := (ho).alloc (.cells #[.int .i64 p1, .int .i64 p2, .int .i64 p3] 28 (0, 0))
    rw [← hb_qb, ← hw_w2] at h_HO1
    have HO1 := Lib.hid h_HO1
    clear h_HO1
    have HE1 : Hid (Own w (EvO qb (p1, p2, p3) * (FaO fb f' c' t * (EvO eb (x1, x2, x3) * (BTab rb n rs * R)))) w2) := HO1
    clear HO1
    have HB1 : Hid (Own w (BTab rb n rs * (EvO qb (p1, p2, p3) * (FaO fb f' c' t * (EvO eb (x1, x2, x3) * R)))) w2) := Lib.hid (HE1.out.perm (by ac_rfl))
    obtain ⟨d0, d1, d2⟩ := HE1.out.ev
    obtain ⟨e0, e1, e2⟩ := (HE1.out.perm (show _ = EvO eb (x1, x2, x3) * (EvO qb (p1, p2, p3) * (FaO fb f' c' t * (BTab rb n rs * R))) by ac_rfl)).ev
    simp only at d0 d1 d2 e0 e1 e2
    obtain ⟨cb, co, ccap, rfl⟩ := HB1.out.bt_shape hcv (by omega)
    obtain ⟨_, g2, g3, _, g5, _⟩ := HB1.out.bt_put hcv rfl (by omega)
    have b1 := HB1.out.bt_cell hcv
    have b2 := g5 i _ hbr
    rw [hrl] at b1 g2
    have i0 : (0 : Int) ≤ (i : Int) := by omega
    have ik : (i : Int) < (k : Int) := by omega
    have i1 : (i : Int) < (n : Int) := by omega
    have k0 : (0 : Int) ≤ (k : Int) := by omega
    have k1 : (k : Int) < (n : Int) := by omega
    have HHP := Lib.hid hp
    have HCS := Lib.hid hcs; have HS := Lib.hid hS; have HF := Lib.hid hF; have HU1 := Lib.hid hu1; have HU2 := Lib.hid hu2; have HSS := Lib.hid hSS; have HF' := Lib.hid hf'; have HC' := Lib.hid hc'; have HUN1 := Lib.hid hun1; have HUN2 := Lib.hid hun2; have HROW := Lib.hid hrow; have HCV := Lib.hid hcv; have HR := Lib.hid hr; have HRL := Lib.hid hrl; have HBR := Lib.hid hbr; have HY := Lib.hid hy; have HO := Lib.hid ho; have G5 := Lib.hid g5
    clear hcs hS hF hu1 hu2 hSS hf' hc' hun1 hun2 hrow hcv hr hrl hbr hy ho g5
    clear hp
    go_upto_region 12 with fail
    rw [← hb_qb, ← hw_w2]
    clear hb_qb hw_w2
    clear c0 c1 c2
    go_cut [63] from 38 to 38 (fun tv wx => tv = .bool S ∧ Own w (EvO qb (p1, p2, p3) * (FaO fb f' c' t * (EvO eb (x1, x2, x3) * (BTab rb n rs * R)))) wx)
    case first =>
      by_cases a1 : p2 = 2
      rotate_left
      · have t1 : (p2 != 2) = true := by simpa using a1
        have hs1 : S = true := by rw [HS.out]; simp [a1]
        have A1 := Lib.hid a1; have HS1 := Lib.hid hs1
        clear a1 hs1
        go_wp2_with fail
        go_meet
        exact ⟨by rw [HS1.out], HE1.out⟩
      have t1 : (p2 != 2) = false := by simpa using a1
      by_cases a2 : x2 = 2
      rotate_left
      · have t2 : (x2 != 2) = true := by simpa using a2
        have hs1 : S = true := by rw [HS.out]; simp [a2]
        have A1 := Lib.hid a1; have A2 := Lib.hid a2; have HS1 := Lib.hid hs1
        clear a1 a2 hs1
        go_wp2_with fail
        go_meet
        exact ⟨by rw [HS1.out], HE1.out⟩
      have t2 : (x2 != 2) = false := by simpa using a2
      cases y
      · have hs1 : S = true := by rw [HS.out]; simp
        have A1 := Lib.hid a1; have A2 := Lib.hid a2; have HS1 := Lib.hid hs1
        clear a1 a2 hs1
        go_wp2_with fail
        go_meet
        exact ⟨by rw [HS1.out], HE1.out⟩
      · have hs1 : S = aheadB hs p3 x3 := by rw [HS.out]; simp [a1, a2]
        have A1 := Lib.hid a1; have A2 := Lib.hid a2; have HS1 := Lib.hid hs1
        clear a1 a2 hs1
        go_wp2_with fail
        refine (HAH.out (EvO qb (p1, p2, p3) * (FaO fb f' c' t * (EvO eb (x1, x2, x3) * BTab rb n rs))) w2 p3 x3 (HE1.out.perm (by ac_rfl))).mono ?_
        rintro e w3 ⟨rfl, ho⟩
        rw [← HS1.out]
        have HO3 : Hid (Own w (EvO qb (p1, p2, p3) * (FaO fb f' c' t * (EvO eb (x1, x2, x3) * (BTab rb n rs * R)))) w3) := Lib.hid (ho.perm (by ac_rfl))
        clear ho
        go_wp2_with fail
        go_meet
        exact ⟨rfl, HO3.out⟩
    case rest =>
    obtain ⟨rfl, ho⟩ := hcut
    clear HE1 HB1 d0 d1 d2 e0 e1 e2 b1 b2
    cases S
    rotate_left
    · have HN2 : Hid (Own w (FaO fb (f && upTo (fifoOk hs k) (i + 1)) (c && upTo (skipB hs k) (i + 1)) t * (EvO eb (x1, x2, x3) * (BTab rb n rs * R))) wc) := Lib.hid (by rw [HUN1.out, HUN2.out, Bool.true_or, Bool.and_true, Bool.and_true]; exact ho.drop)
      clear ho
      go_wp2_with fail
      go_roundw
      case rel => exact ⟨i + 1, by omega, by go_num, HN2⟩
      case measure => simp [intOf]; omega
    · have hf : Own w (FaO fb f' c' t * (EvO qb (p1, p2, p3) * (EvO eb (x1, x2, x3) * (BTab rb n rs * R)))) wc := ho.perm (by ac_rfl)
      obtain ⟨g0, g1, _, g4⟩ := hf.fa
      have hf1 := hf.fa1 false
      obtain ⟨wd, hwd⟩ : ∃ wd, wd = wc.setCell ⟨fb, 1, none⟩ (.bool false) := ⟨_, rfl⟩
      rw [← hwd] at hf1
      have HF1 := Lib.hid hf1
      clear hf1 ho hf
      go_upto_region 14 with fail
      rw [← hwd]
      clear hwd g0 g1 g4
      obtain ⟨g0, _, _, g4⟩ := HF1.out.fa
      obtain ⟨d0, _, _⟩ := (HF1.out.perm (star_left_comm _ _ _)).ev
      obtain ⟨e0, _, _⟩ := (HF1.out.perm (show _ = EvO eb (x1, x2, x3) * (FaO fb f' false t * (EvO qb (p1, p2, p3) * (BTab rb n rs * R))) by ac_rfl)).ev
      simp only at d0 e0
      obtain ⟨z, hz⟩ : ∃ z, z = (f' && (p1 != x1)) := ⟨_, rfl⟩
      have hst := HF1.out.fa0 z
      have HN2 : Hid (Own w (FaO fb (f && upTo (fifoOk hs k) (i + 1)) (c && upTo (skipB hs k) (i + 1)) t * (EvO eb (x1, x2, x3) * (BTab rb n rs * R))) (wd.setCell ⟨fb, 0, none⟩ (.bool z))) := Lib.hid (by
        rw [HUN1.out, HUN2.out, Bool.and_false, Bool.false_or, show (f' && decide (p1 ≠ x1)) = z by rw [hz]; by_cases a : p1 = x1 <;> simp [a]]
        exact (hst.perm (show _ = EvO qb (p1, p2, p3) * (FaO fb z false t * (EvO eb (x1, x2, x3) * (BTab rb n rs * R))) by ac_rfl)).drop)
      clear hst
      cases f'
      · rw [Bool.false_and] at hz
        subst hz
        go_wp2_with fail
        go_roundw
        case rel => exact ⟨i + 1, by omega, by go_num, HN2⟩
        case measure => simp [intOf]; omega
      · rw [Bool.true_and] at hz
        subst hz
        go_wp2_with fail
        go_roundw
        case rel => exact ⟨i + 1, by omega, by go_num, HN2⟩
        case measure => simp [intOf]; omega
end Go.Proofs.YtgjjilehpgnjhaaDoor
/- The reference's table of who is ahead of whom: [60][60]bool, by value. -/
namespace Go.Proofs.YtgjjilehpgnjhaaDoor
set_option linter.unusedVariables false
set_option linter.unusedSimpArgs false
open Go.RowKit
def cells60 (f : Nat → Nat → Bool) : Array Value := ((List.range 3600).map fun j => Value.bool (f (j / 60) (j % 60))).toArray
theorem cells60_size (f : Nat → Nat → Bool) : (cells60 f).size = 3600 := by simp [cells60]
theorem cells60_get (f : Nat → Nat → Bool) {i k : Nat} (hi : i < 60) (hk : k < 60) : (cells60 f)[i * 60 + k]? = some (.bool (f i k)) := by
  unfold cells60
  rw [List.getElem?_toArray, List.getElem?_map, List.getElem?_range (by omega)]
  simp only [Option.map_some]
  rw [show (i * 60 + k) / 60 = i by omega, show (i * 60 + k) % 60 = k by omega]
theorem cells60_set (f g : Nat → Nat → Bool) {i k : Nat} (hi : i < 60) (hk : k < 60) (v : Bool) (hg : ∀ a b, g a b = if a = i ∧ b = k then v else f a b) : (cells60 f).setIfInBounds (i * 60 + k) (.bool v) = cells60 g := by
  apply Array.ext_getElem?
  intro j
  rw [Array.getElem?_setIfInBounds]
  by_cases hj : j < 3600
  · have e1 : j = (j / 60) * 60 + j % 60 := by omega
    have h1 := cells60_get g (i := j / 60) (k := j % 60) (by omega) (by omega)
    have h2 := cells60_get f (i := j / 60) (k := j % 60) (by omega) (by omega)
    rw [← e1] at h1 h2
    rw [h1, h2, hg, cells60_size]
    by_cases e : i * 60 + k = j
    · rw [if_pos e, if_pos (by omega), if_pos ⟨by omega, by omega⟩]
    · rw [if_neg e, if_neg (fun hh => e (by omega))]
  · rw [if_neg (by omega), Array.getElem?_eq_none (by rw [cells60_size]; omega), Array.getElem?_eq_none (by rw [cells60_size]; omega)]
def T60 (b : Nat) (f : Nat → Nat → Bool) : HProp := blk b (.cells (cells60 f) 35 (0, 0))
theorem Own.t60 {w0 w : World} {b : Nat} {f : Nat → Nat → Bool} {R : HProp} (h : Own w0 (T60 b f * R) w) {i k : Nat} (hi : i < 60) (hk : k < 60) : w.cell? ⟨b, i * 60 + k, none⟩ = some (.bool (f i k)) := (Own.cell h _).trans (cells60_get f hi hk)
theorem Own.t60_free {w0 w : World} {b : Nat} {f : Nat → Nat → Bool} {R : HProp} (h : Own w0 (T60 b f * R) w) (i : Nat) (s : Option Nat) : w.frozen? ⟨b, i, s⟩ = false := Own.free h i s
theorem Own.t60_set {w0 w : World} {b : Nat} {f g : Nat → Nat → Bool} {R : HProp} (h : Own w0 (T60 b f * R) w) {i k : Nat} (hi : i < 60) (hk : k < 60) (v : Bool) (hg : ∀ a b, g a b = if a = i ∧ b = k then v else f a b) : Own w0 (T60 b g * R) (w.setCell ⟨b, i * 60 + k, none⟩ (.bool v)) := by
  have h1 := Own.setCell (i := i * 60 + k) (v := .bool v) h
  rw [cells60_set f g hi hk v hg] at h1
  exact h1
/-- A whole array stored into a block. -/
theorem wp_store_row {P : Program} {o : Oper} {a : Act} {w : World} {K : Act → World → Prop} {Q : Exit → Act → World → Prop} (ty : TypeId) (x y : Operand) (ho : o.op = .store ty x y) (hd : o.dst = none)
    (g : Nat) (hx : a.eval x = .pointer (some ⟨g, 0, none⟩)) (t : TypeId) (old cs : Array Value) (hy : a.eval y = .agg cs) (hg : w.heap[g]? = some (.cells old t (0, 0)))
    (hi : (P.info? ty).map (·.size) = some cs.size) (hs : old.size = cs.size) (h1 : cs.all (·.oneCell') = true)
    (h : K a (w.setRow g cs)) : o.wp P a w K Q := by
  unfold Oper.wp execOp
  simp only [ho, hx, hy, Instr.storeAt, Instr.sureAddr, Sem.run_bind, Sem.run_pure, Result.andThen_ok, run_storeVar_row w g t ty old cs hg hi hs h1, Oper.upon_skip, hd]
  exact h
theorem Own.setRow {w0 w : World} {b : Nat} {cs cs' : Array Value} {t : TypeId} {R : HProp} (h : Own w0 (blk b (.cells cs t (0, 0)) * R) w) : Own w0 (blk b (.cells cs' t (0, 0)) * R) (w.setRow b cs') :=
  h.set rfl rfl rfl (by simp) (fun k _ hk => setRow_other w b k cs' hk) (setRow_heap w b cs cs' t (0, 0) h.blk_at.1)
theorem cells60_one (f : Nat → Nat → Bool) : (cells60 f).all (·.oneCell') = true := by
  rw [Array.all_eq_true_iff_forall_mem]
  intro v hv
  unfold cells60 at hv
  rw [List.mem_toArray] at hv
  obtain ⟨j, _, rfl⟩ := List.mem_map.1 hv
  rfl
theorem info60 (f : Nat → Nat → Bool) : (Tryd.prog.info? 35).map (·.size) = some (cells60 f).size := by
  rw [cells60_size]; kernel_rfl
theorem und60 : Tryd.prog.underlying 35 = some (.array 60 34) := by kernel_rfl
theorem tAll_at (h : List Ev) {i k n : Nat} (hn : h.length = n) (hk : k < n) (hi : i < k) : tAll h i k = directB (evAt h i) (evAt h k) := by
  unfold tAll
  rw [decide_eq_true (by omega), decide_eq_true hi]; simp
noncomputable def rbRow_code : Code := ((Tryd.f13.body.bind (findBlock 2)).getD .skip)
set_option maxRecDepth 1000000 in
set_option maxHeartbeats 4000000 in
theorem rbRow {Q : Exit → Act → World → Prop} {u1 u2 u6 u7 u8 u9 u10 u11 u12 u13 u14 u15 u16 u17 u18 u19 u20 u21 u22 u23 u24 u25 u26 u27 u28 u29 u30 u31 u32 u33 u34 u35 u36 u37 u38 u39 u40 u41 u42 u43 u44 u45 u46 u47 u48 u49 u50 u51 u52 u53 u54 u55 u56 u57 u58 u59 u60 u61 u62 u63 u64 u65 u66 u67 u68 u69 u70 u71 u72 u73 u74 u75 u76 u77 u78 u79 u80 u81 u82 u83 u84 u85 u86 u87 u88 u89 u90 u91 u92 u93 u94 u95 u96 u97 u98 u99 u100 u101 u102 : Value} {w1 : World} (w : World) (R : HProp) (tb n i hcap : Nat) (had : Option Addr) (hs : List Ev) (hi : i < n) (hn : n ≤ 60) (hc1 : n ≤ hcap) (hc2 : hcap ≤ 9223372036854775807) (HLN : Hid (hs.length = n)) (HV : Hid (ReadsE w R (.slice had n hcap) hs)) (HP : Hid (Own w (T60 tb (tIni hs i 0) * R) w1))
    (hK : ∀ (v5 v17 v18 v19 v20 v21 v22 v23 v24 v25 v26 v27 v28 v29 v30 v31 v32 v33 v34 v35 v36 v37 v38 v39 v40 v41 v42 v43 v44 v45 v46 v47 v48 v49 v50 v51 v52 v53 v54 v55 v56 v57 v58 v59 v60 v61 v62 v63 v64 v65 v66 : Value) (wx : World), (Own w (T60 tb (tIni hs i n) * R) wx) → Q .normal ⟨List.toArray ((.slice had n hcap) :: u1 :: u2 :: (.pointer (some ⟨tb, 0, none⟩)) :: (.int .i64 (i : Int)) :: v5 :: u6 :: u7 :: u8 :: u9 :: u10 :: u11 :: u12 :: u13 :: u14 :: u15 :: u16 :: v17 :: v18 :: v19 :: v20 :: v21 :: v22 :: v23 :: v24 :: v25 :: v26 :: v27 :: v28 :: v29 :: v30 :: v31 :: v32 :: v33 :: v34 :: v35 :: v36 :: v37 :: v38 :: v39 :: v40 :: v41 :: v42 :: v43 :: v44 :: v45 :: v46 :: v47 :: v48 :: v49 :: v50 :: v51 :: v52 :: v53 :: v54 :: v55 :: v56 :: v57 :: v58 :: v59 :: v60 :: v61 :: v62 :: v63 :: v64 :: v65 :: v66 :: u67 :: u68 :: u69 :: u70 :: u71 :: u72 :: u73 :: u74 :: u75 :: u76 :: u77 :: u78 :: u79 :: u80 :: u81 :: u82 :: u83 :: u84 :: u85 :: u86 :: u87 :: u88 :: u89 :: u90 :: u91 :: u92 :: u93 :: u94 :: u95 :: u96 :: u97 :: u98 :: u99 :: u100 :: u101 :: u102 :: []), []⟩ wx) :
    Code.wp Tryd.prog rbRow_code Q ⟨List.toArray ((.slice had n hcap) :: u1 :: u2 :: (.pointer (some ⟨tb, 0, none⟩)) :: (.int .i64 (i : Int)) :: (.int .i64 ((i : Int) + 1)) :: u6 :: u7 :: u8 :: u9 :: u10 :: u11 :: u12 :: u13 :: u14 :: u15 :: u16 :: u17 :: u18 :: u19 :: u20 :: u21 :: u22 :: u23 :: u24 :: u25 :: u26 :: u27 :: u28 :: u29 :: u30 :: u31 :: u32 :: u33 :: u34 :: u35 :: u36 :: u37 :: u38 :: u39 :: u40 :: u41 :: u42 :: u43 :: u44 :: u45 :: u46 :: u47 :: u48 :: u49 :: u50 :: u51 :: u52 :: u53 :: u54 :: u55 :: u56 :: u57 :: u58 :: u59 :: u60 :: u61 :: u62 :: u63 :: u64 :: u65 :: u66 :: u67 :: u68 :: u69 :: u70 :: u71 :: u72 :: u73 :: u74 :: u75 :: u76 :: u77 :: u78 :: u79 :: u80 :: u81 :: u82 :: u83 :: u84 :: u85 :: u86 :: u87 :: u88 :: u89 :: u90 :: u91 :: u92 :: u93 :: u94 :: u95 :: u96 :: u97 :: u98 :: u99 :: u100 :: u101 :: u102 :: []), []⟩ w1 := by
  conv => arg 2; whnf
  have HK := Lib.hid hK
  clear hK
  go_wp2_with fail
  go_loopw [5] (fun kv wr => ∃ k : Nat, k ≤ n ∧ i < k ∧ kv = .int .i64 k ∧ Hid (Own w (T60 tb (tIni hs i k) * R) wr)) (fun kv _ => n - (intOf kv).toNat)
  case atStart => exact ⟨i + 1, by omega, by omega, by go_num, Lib.hid (by have := HP.out; rw [show tIni hs i (i + 1) = tIni hs i 0 from funext fun a => funext fun b => tIni_first hs i a b]; exact this)⟩
  case round =>
    clear HP
    obtain ⟨k, hk, hik, rfl, HO⟩ := hrel
    by_cases hlt : k < n
    rotate_left
    · have hkn : k = n := by omega
      subst hkn
      go_wp2_with fail
      apply HK.out
      exact HO.out
    have hkl : k < hs.length := by rw [HLN.out]; exact hlt
    have hil : i < hs.length := by rw [HLN.out]; exact hi
    obtain ⟨aa, pb, po, ps, rfl, hea, hcs, _⟩ := HV.out.more.at HO.out k hkl
    obtain ⟨aa', qb, qo, qs, ea, heb, hcs2, _⟩ := HV.out.more.at HO.out i hil
    injection ea with ea
    subst ea
    have hta := tAll_at hs HLN.out hlt hik
    obtain ⟨y, hy⟩ : ∃ y, y = evAt hs k := ⟨_, rfl⟩
    obtain ⟨x, hx⟩ : ∃ x, x = evAt hs i := ⟨_, rfl⟩
    rw [← hy] at hcs
    rw [← hx] at hcs2
    rw [← hx, ← hy] at hta
    obtain ⟨c0, c1, c2⟩ := hcs _ HO.out
    obtain ⟨d0, d1, d2⟩ := hcs2 _ HO.out
    obtain ⟨x1, x2, x3⟩ := x
    obtain ⟨y1, y2, y3⟩ := y
    simp only at c0 c1 c2 d0 d1 d2
    obtain ⟨D, hD⟩ : ∃ D, D = directB (x1, x2, x3) (y1, y2, y3) := ⟨_, rfl⟩
    rw [← hD] at hta
    have hD2 : D = (decide (x1 = y1) || (decide (y2 = 3) && (decide (x2 = 2) && decide (x3 = y3)))) := hD
    have i0 : (0 : Int) ≤ (k : Int) := by omega
    have i1 : (k : Int) < (n : Int) := by omega
    have j0 : (0 : Int) ≤ (i : Int) := by omega
    have j1 : (i : Int) < (n : Int) := by omega
    have i6 : (k : Int) < 60 := by omega
    have j6 : (i : Int) < 60 := by omega
    clear hD
    have HCS := Lib.hid hcs; have HCS2 := Lib.hid hcs2; have HX := Lib.hid hx; have HY := Lib.hid hy; have HTA := Lib.hid hta; have HD2 := Lib.hid hD2
    clear hcs hcs2 hx hy hta hD2
    go_wp2_with fail
    go_upto_region 8 with fail
    go_cut [62] from 23 to 62 (fun c wx => c = .bool D ∧ Own w (T60 tb (tIni hs i k) * R) wx)
    case first =>
      by_cases a1 : x1 = y1
      · have hd : D = true := by rw [HD2.out]; simp [a1]
        subst a1
        have HD := Lib.hid hd
        clear hd
        go_wp2_with fail
        go_quiet (fail)
        go_wp2_with fail
        go_meet
        exact ⟨by rw [HD.out], HO.out.drewN _⟩
      have t1 : (x1 == y1) = false := by rw [beq_eq_false_iff_ne]; exact a1
      by_cases a2 : x2 = 2
      rotate_left
      · have t2 : (x2 == 2) = false := by rw [beq_eq_false_iff_ne]; exact a2
        have hd : D = false := by rw [HD2.out]; simp [a1, a2]
        have HD := Lib.hid hd; have A1 := Lib.hid a1; have A2 := Lib.hid a2
        clear hd a1 a2
        go_wp2_with fail
        go_quiet (fail)
        go_wp2_with fail
        go_meet
        exact ⟨by rw [HD.out], HO.out.drewN _⟩
      subst a2
      by_cases a3 : y2 = 3
      rotate_left
      · have t2 : (y2 == 3) = false := by rw [beq_eq_false_iff_ne]; exact a3
        have hd : D = false := by rw [HD2.out]; simp [a1, a3]
        have HD := Lib.hid hd; have A1 := Lib.hid a1; have A3 := Lib.hid a3
        clear hd a1 a3
        go_wp2_with fail
        go_quiet (fail)
        go_wp2_with fail
        go_meet
        exact ⟨by rw [HD.out], HO.out.drewN _⟩
      subst a3
      by_cases a4 : x3 = y3
      · have hd : D = true := by rw [HD2.out]; simp [a1, a4]
        subst a4
        have HD := Lib.hid hd; have A1 := Lib.hid a1
        clear hd a1
        go_wp2_with fail
        go_quiet (fail)
        go_wp2_with fail
        go_meet
        exact ⟨by rw [HD.out], HO.out.drewN _⟩
      · have t4 : (x3 == y3) = false := by rw [beq_eq_false_iff_ne]; exact a4
        have hd : D = false := by rw [HD2.out]; simp [a1, a4]
        have HD := Lib.hid hd; have A1 := Lib.hid a1; have A4 := Lib.hid a4
        clear hd a1 a4
        go_wp2_with fail
        go_quiet (fail)
        go_wp2_with fail
        go_meet
        exact ⟨by rw [HD.out], HO.out.drewN _⟩
    case rest =>
    obtain ⟨rfl, ho⟩ := hcut
    have HO2 := Lib.hid ho
    clear ho HO c0 c1 c2 d0 d1 d2
    have b0 := HO2.out.t60 (i := i) (k := k) (by omega) (by omega)
    have b1 := HO2.out.t60_free (i * 60 + k) none
    cases D
    · have hsame : tIni hs i k = tIni hs i (k + 1) := by
        funext a b
        rw [tIni_step]
        by_cases e : a = i ∧ b = k
        · rw [if_pos e, HTA.out, e.1, e.2]; unfold tIni; simp
        · rw [if_neg e]
      have HO3 : Hid (Own w (T60 tb (tIni hs i (k + 1)) * R) wc) := Lib.hid (by rw [← hsame]; exact HO2.out)
      clear hsame
      go_wp2_with fail
      go_roundw
      case rel => exact ⟨k + 1, by omega, by omega, by go_num, HO3⟩
      case measure => simp [intOf]; omega
    · have HO3 := Lib.hid (HO2.out.t60_set (g := tIni hs i (k + 1)) (i := i) (k := k) (by omega) (by omega) true (fun a b => by rw [tIni_step, HTA.out]))
      go_wp2_with fail
      go_roundw
      case rel => exact ⟨k + 1, by omega, by omega, by go_num, HO3⟩
      case measure => simp [intOf]; omega
noncomputable def rbIni_code : Code := ((Tryd.f13.body.bind (findBlock 0)).getD .skip)
set_option maxRecDepth 1000000 in
set_option maxHeartbeats 4000000 in
theorem rbIni {Q : Exit → Act → World → Prop} {u1 u2 u5 u6 u7 u8 u9 u10 u11 u12 u13 u14 u15 u16 u17 u18 u19 u20 u21 u22 u23 u24 u25 u26 u27 u28 u29 u30 u31 u32 u33 u34 u35 u36 u37 u38 u39 u40 u41 u42 u43 u44 u45 u46 u47 u48 u49 u50 u51 u52 u53 u54 u55 u56 u57 u58 u59 u60 u61 u62 u63 u64 u65 u66 u67 u68 u69 u70 u71 u72 u73 u74 u75 u76 u77 u78 u79 u80 u81 u82 u83 u84 u85 u86 u87 u88 u89 u90 u91 u92 u93 u94 u95 u96 u97 u98 u99 u100 u101 u102 : Value} {w1 : World} (w : World) (R : HProp) (tb n hcap : Nat) (had : Option Addr) (hs : List Ev) (hn : n ≤ 60) (hc1 : n ≤ hcap) (hc2 : hcap ≤ 9223372036854775807) (HLN : Hid (hs.length = n)) (HV : Hid (ReadsE w R (.slice had n hcap) hs)) (HP : Hid (Own w (T60 tb (tIni hs 0 0) * R) w1))
    (hK : ∀ (v4 v5 v9 v10 v11 v12 v13 v14 v15 v16 v17 v18 v19 v20 v21 v22 v23 v24 v25 v26 v27 v28 v29 v30 v31 v32 v33 v34 v35 v36 v37 v38 v39 v40 v41 v42 v43 v44 v45 v46 v47 v48 v49 v50 v51 v52 v53 v54 v55 v56 v57 v58 v59 v60 v61 v62 v63 v64 v65 v66 : Value) (wx : World), (Own w (T60 tb (tStage hs 0) * R) wx) → Q .normal ⟨List.toArray ((.slice had n hcap) :: u1 :: u2 :: (.pointer (some ⟨tb, 0, none⟩)) :: v4 :: v5 :: u6 :: u7 :: u8 :: v9 :: v10 :: v11 :: v12 :: v13 :: v14 :: v15 :: v16 :: v17 :: v18 :: v19 :: v20 :: v21 :: v22 :: v23 :: v24 :: v25 :: v26 :: v27 :: v28 :: v29 :: v30 :: v31 :: v32 :: v33 :: v34 :: v35 :: v36 :: v37 :: v38 :: v39 :: v40 :: v41 :: v42 :: v43 :: v44 :: v45 :: v46 :: v47 :: v48 :: v49 :: v50 :: v51 :: v52 :: v53 :: v54 :: v55 :: v56 :: v57 :: v58 :: v59 :: v60 :: v61 :: v62 :: v63 :: v64 :: v65 :: v66 :: u67 :: u68 :: u69 :: u70 :: u71 :: u72 :: u73 :: u74 :: u75 :: u76 :: u77 :: u78 :: u79 :: u80 :: u81 :: u82 :: u83 :: u84 :: u85 :: u86 :: u87 :: u88 :: u89 :: u90 :: u91 :: u92 :: u93 :: u94 :: u95 :: u96 :: u97 :: u98 :: u99 :: u100 :: u101 :: u102 :: []), []⟩ wx) :
    Code.wp Tryd.prog rbIni_code Q ⟨List.toArray ((.slice had n hcap) :: u1 :: u2 :: (.pointer (some ⟨tb, 0, none⟩)) :: (.int .i64 0) :: u5 :: u6 :: u7 :: u8 :: u9 :: u10 :: u11 :: u12 :: u13 :: u14 :: u15 :: u16 :: u17 :: u18 :: u19 :: u20 :: u21 :: u22 :: u23 :: u24 :: u25 :: u26 :: u27 :: u28 :: u29 :: u30 :: u31 :: u32 :: u33 :: u34 :: u35 :: u36 :: u37 :: u38 :: u39 :: u40 :: u41 :: u42 :: u43 :: u44 :: u45 :: u46 :: u47 :: u48 :: u49 :: u50 :: u51 :: u52 :: u53 :: u54 :: u55 :: u56 :: u57 :: u58 :: u59 :: u60 :: u61 :: u62 :: u63 :: u64 :: u65 :: u66 :: u67 :: u68 :: u69 :: u70 :: u71 :: u72 :: u73 :: u74 :: u75 :: u76 :: u77 :: u78 :: u79 :: u80 :: u81 :: u82 :: u83 :: u84 :: u85 :: u86 :: u87 :: u88 :: u89 :: u90 :: u91 :: u92 :: u93 :: u94 :: u95 :: u96 :: u97 :: u98 :: u99 :: u100 :: u101 :: u102 :: []), []⟩ w1 := by
  conv => arg 2; whnf
  have HK := Lib.hid hK
  clear hK
  go_wp2_with fail
  go_loopw [4] (fun iv wr => ∃ i : Nat, i ≤ n ∧ iv = .int .i64 i ∧ Hid (Own w (T60 tb (tIni hs i 0) * R) wr)) (fun iv _ => n - (intOf iv).toNat)
  case atStart => exact ⟨0, Nat.zero_le _, rfl, HP⟩
  case round =>
    clear HP
    obtain ⟨i, hi, rfl, HO⟩ := hrel
    by_cases hlt : i < n
    rotate_left
    · have hin : i = n := by omega
      subst hin
      have HO2 : Hid (Own w (T60 tb (tStage hs 0) * R) wr) := Lib.hid (by
        rw [show tStage hs 0 = tIni hs i 0 from funext fun a => funext fun b => by rw [← tIni_all, HLN.out]]; exact HO.out)
      go_wp2_with fail
      apply HK.out
      exact HO2.out
    go_upto_block 2 with fail
    refine rbRow w R tb n i hcap had hs hlt hn hc1 hc2 HLN HV HO ?_
    intros
    rename_i wq hcut
    have HO2 : Hid (Own w (T60 tb (tIni hs (i + 1) 0) * R) wq) := Lib.hid (by
      rw [show tIni hs (i + 1) 0 = tIni hs i n from funext fun a => funext fun b => by rw [← tIni_row, HLN.out]]; exact hcut)
    clear hcut HO
    go_wp2_with fail
    go_roundw
    case rel => exact ⟨i + 1, by omega, by go_num, HO2⟩
    case measure => simp [intOf]; omega
end Go.Proofs.YtgjjilehpgnjhaaDoor
