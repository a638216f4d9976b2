/- The reference's history, continued: History, Right. -/
import Derived.Test.YtljlnhbndkdlcaaDoorMClockTells13
import Derived.Test.YtljlnhbndkdlcaaDoorMClockTells8
import Derived.Test.YtljlnhbndkdlcaaDoorMClockTells5
import Derived.Test.YtljlnhbndkdlcaaDoorMClockTells9
import Derived.Test.YtljlnhbndkdlcaaDoorMClockTells10
import Derived.Sort.Grow
import Derived.Test.YtljlnhbndkdlcaaDoorMClockTells4
import Derived.Test.YtljlnhbndkdlcaaDoorProg
import Derived.Shelf.SlSortCmp.NoneTotal
import Derived.Test.YtljlnhbndkdlcaaDoorMClockTells1
namespace Go.Proofs.YtljlnhbndkdlcaaDoor
set_option linter.unusedVariables false
set_option linter.unusedSimpArgs false
open Go.RowKit
theorem rh_rightB_no {x : Ev} (h : ¬ (0 ≤ x.1 ∧ x.1 ≤ 4)) : rightB x = false := by
  unfold rightB
  have : isMember x.1 = false := by
    cases hm : isMember x.1
    · rfl
    · exfalso; apply h; unfold isMember at hm; simp at hm; omega
  rw [this]; rfl
theorem rh_rightB_what {x : Ev} (h : ¬ (1 ≤ x.2.1 ∧ x.2.1 ≤ 3)) : rightB x = false := by
  unfold rightB
  rw [if_neg (by omega), decide_eq_false (by omega), decide_eq_false (by omega)]
  simp
theorem rh_rightB_think {x : Ev} (h : 0 ≤ x.1 ∧ x.1 ≤ 4) (h1 : x.2.1 = 1) : rightB x = decide (x.2.2 = 0) := by
  unfold rightB
  have : isMember x.1 = true := by unfold isMember; simp; omega
  rw [if_pos h1, this]; rfl
theorem rh_rightB_word {x : Ev} (h : 0 ≤ x.1 ∧ x.1 ≤ 4) (h1 : x.2.1 = 2 ∨ x.2.1 = 3) : rightB x = isWord x.2.2 := by
  unfold rightB
  have : isMember x.1 = true := by unfold isMember; simp; omega
  rw [if_neg (by omega), this]
  rcases h1 with h1 | h1 <;> rw [h1] <;> simp
theorem rh_evErr_bad {l : List Ev} {x : Ev} (h : rightB x = false) : evErr l x = 1 := by unfold evErr; rw [if_pos h]
theorem rh_evErr_think {l : List Ev} {x : Ev} (h : rightB x = true) (h1 : x.2.1 = 1) : evErr l x = 0 := by
  unfold evErr
  rw [if_neg (by rw [h]; simp), if_neg (by omega), if_neg (by omega), if_neg (by omega)]
theorem rh_evErr_say {l : List Ev} {x : Ev} (h : rightB x = true) (h1 : x.2.1 = 2) : evErr l x = if 0 ≤ saidAt l x.2.2 then 7 else 0 := by
  unfold evErr
  rw [if_neg (by rw [h]; simp)]
  by_cases h2 : 0 ≤ saidAt l x.2.2
  · rw [if_pos (.inl ⟨h1, h2⟩), if_pos h2]
  · rw [if_neg (by rintro (⟨_, h3⟩ | ⟨h3, _⟩) <;> omega), if_neg h2, if_neg (by omega), if_neg (by omega)]
theorem rh_evErr_hear {l : List Ev} {x : Ev} (h : rightB x = true) (h1 : x.2.1 = 3) (hm : x ∉ l) : evErr l x = if saidAt l x.2.2 < 0 then 5 else if byOf l x.2.2 = x.1 then 3 else 0 := by
  unfold evErr
  rw [if_neg (by rw [h]; simp), if_neg (by rintro (⟨h3, _⟩ | ⟨_, h3⟩); omega; exact hm h3)]
  by_cases h2 : saidAt l x.2.2 < 0
  · rw [if_pos ⟨h1, h2⟩, if_pos h2]
  · rw [if_neg (fun hh : x.2.1 = 3 ∧ saidAt l x.2.2 < 0 => h2 hh.2), if_neg h2]
    unfold byOf
    rw [if_pos (show 0 ≤ saidAt l x.2.2 by omega)]
    by_cases h4 : (evAt l (saidAt l x.2.2).toNat).1 = x.1
    · rw [if_pos ⟨h1, h4⟩, if_pos h4]
    · rw [if_neg (fun hh => h4 hh.2), if_neg h4]
theorem rh_evErr_again {l : List Ev} {x : Ev} (h : rightB x = true) (h1 : x.2.1 = 3) (hm : x ∈ l) : evErr l x = 7 := by
  unfold evErr
  rw [if_neg (by rw [h]; simp), if_pos (.inr ⟨h1, hm⟩)]
theorem rh_evErr_right {l : List Ev} {x : Ev} (h : evErr l x = 0) : rightB x = true := by
  cases hr : rightB x
  · rw [rh_evErr_bad hr] at h; cases h
  · rfl
theorem byOf_pos' {h : List Ev} {i : Nat} (hi : i ≤ h.length) (hr : ∀ j, j < i → evErr (h.take j) (evAt h j) = 0) (w : Int) : (0 ≤ byOf (h.take i) w ↔ 0 ≤ saidAt (h.take i) w) := by
  refine byOf_pos (fun k hk => ?_) w
  have hk' : k < i := by simp at hk; omega
  have := rh_evErr_right (hr k hk')
  have hev : evAt h k = h[k]'(by omega) := by unfold evAt; rw [List.getD_eq_getElem?_getD, List.getElem?_eq_getElem (by omega)]; rfl
  rw [hev] at this
  rw [List.getElem_take]
  exact this
theorem first_mem {l : List Ev} {x : Ev} {i : Nat} (h : x ∈ l.take i) : ∃ p, p < i ∧ p < l.length ∧ evAt l p = x ∧ ∀ k, k < p → evAt l k ≠ x := by
  have ex : ∃ p, p < i ∧ p < l.length ∧ evAt l p = x := by
    rw [List.mem_take_iff_getElem] at h
    obtain ⟨p, hp, he⟩ := h
    exact ⟨p, by omega, by omega, by unfold evAt; rw [List.getD_eq_getElem?_getD, List.getElem?_eq_getElem (by omega)]; exact he⟩
  obtain ⟨p, h1, h2, h3⟩ := ex
  induction p using Nat.strongRecOn with
  | _ p ih =>
    by_cases hc : ∃ k, k < p ∧ evAt l k = x
    · obtain ⟨k, hk, he⟩ := hc
      exact ih k hk (by omega) (by omega) he
    · exact ⟨p, h1, h2, h3, fun k hk he => hc ⟨k, hk, he⟩⟩
set_option maxRecDepth 100000 in
set_option maxHeartbeats 4000000 in
theorem refHistory_any {w0 w : World} {R : HProp} (v : Value) (hs : List Ev) (h : Own w0 R w) (hv : ReadsE w0 R v hs) :
    Calls Tryd.prog 37 #[v] w fun e w' => e = .returned (.tuple #[.int .i64 (histR hs).1, .int .i64 (histR hs).2]) ∧ Own w0 R w' := by
  obtain ⟨ad, cap, rfl, hlc, hcap⟩ := (hv _ h).shape
  obtain ⟨n, hn⟩ : ∃ n, n = hs.length := ⟨_, rfl⟩
  rw [← hn] at hv hlc ⊢
  have hcap' : cap ≤ 9223372036854775807 := hcap
  by_cases hlen : 60 < n
  · have hr : histR hs = (0, 4) := by unfold histR; rw [if_pos (by omega)]
    have H := Lib.hid h; have HV := Lib.hid hv; have HR := Lib.hid hr; have HN := Lib.hid hn
    clear h hv hr hn
    go_enter Tryd.func37, Tryd.ntmps37
    go_wp2
    go_ret2
    exact ⟨by rw [HR.out]; rfl, H.out⟩
  have hn60 : n ≤ 60 := by omega
  have hr : histR hs = histGo [] hs := by unfold histR; rw [if_neg (by omega)]
  have HLN := Lib.hid hn.symm
  clear hlen
  have H := Lib.hid h; have HV := Lib.hid hv; have HR := Lib.hid hr; have HN := Lib.hid hn
  clear h hv hr hn
  go_enter Tryd.func37, Tryd.ntmps37
  go_wp2_with fail
  go_loopw [4] (fun iv wr => ∃ i : Nat, i ≤ n ∧ iv = .int .i64 i ∧ Hid (histGo (hs.take i) (hs.drop i) = histR hs) ∧ Hid (∀ j, j < i → evErr (hs.take j) (evAt hs j) = 0) ∧ Hid (Own w0 R wr)) (fun iv _ => n - (intOf iv).toNat)
  case atStart => exact ⟨0, Nat.zero_le _, rfl, Lib.hid HR.out.symm, Lib.hid (fun j hj => by omega), H⟩
  case round =>
    clear HR H
    obtain ⟨i, hi, rfl, HP, HRT, HO⟩ := hrel
    by_cases hlt : i < n
    rotate_left
    · have hfin : histR hs = (0, 0) := by
        have := HP.out
        rw [List.drop_of_length_le (by rw [HLN.out]; omega)] at this
        rw [← this]; unfold histGo; rfl
      have HFIN := Lib.hid hfin
      clear hfin
      go_wp2
      go_ret2
      exact ⟨by rw [HFIN.out]; rfl, HO.out⟩
    have hil : i < hs.length := by rw [HLN.out]; exact hlt
    obtain ⟨aa, pb, po, ps, rfl, hea, hcs, hgd⟩ := HV.out.at HO.out i hil
    have hst := histGo_step hil
    rw [HP.out] at hst
    obtain ⟨x, hx⟩ : ∃ x, x = evAt hs i := ⟨_, rfl⟩
    rw [← hx] at hcs hst hgd
    obtain ⟨c0, c1, c2⟩ := hcs _ HO.out
    obtain ⟨E, hE⟩ : ∃ E, E = evErr (hs.take i) x := ⟨_, rfl⟩
    rw [← hE] at hst
    have HRN : Hid (E = 0 → ∀ j, j < i + 1 → evErr (hs.take j) (evAt hs j) = 0) := Lib.hid (fun h0 j hj => by
      by_cases e : j = i
      · subst e; rw [← hx, ← hE]; exact h0
      · exact HRT.out j (by omega))
    obtain ⟨x1, x2, x3⟩ := x
    obtain ⟨eb, hb_eb⟩ : ∃ zz_, zz_ = (wr).heap.size := ⟨_, rfl⟩
    obtain ⟨w1, hw_w1⟩ : ∃ zz_, zz_ = (wr).alloc (.cells #[.int .i64 x1, .int .i64 x2, .int .i64 x3] 28 (0, 0)) := ⟨_, rfl⟩
    have h_HO1 := (HO.out).alloc (.cells #[.int .i64 x1, .int .i64 x2, .int .i64 x3] 28 (0, 0))
    rw [← hb_eb, ← hw_w1] at h_HO1
    have HO1 := Lib.hid h_HO1
    clear h_HO1
    have HE1 : Hid (Own w0 (EvO eb (x1, x2, x3) * R) w1) := HO1
    clear HO1
    obtain ⟨e0, e1, e2⟩ := HE1.out.ev
    simp only at c0 c1 c2 e0 e1 e2 hst hgd
    have HX := Lib.hid hx
    have HGD := Lib.hid hgd
    clear hx hgd
    have HST := Lib.hid hst; have HE := Lib.hid hE
    clear hst hE
    go_upto_region 7 with fail
    rw [← hb_eb, ← hw_w1]
    clear hb_eb hw_w1
    clear c0 c1 c2 hea
    by_cases hb1 : 0 ≤ x1 ∧ x1 ≤ 4 ∧ 1 ≤ x2 ∧ x2 ≤ 3
    rotate_left
    · have hE1 : E = 1 := by
        rw [HE.out]
        refine rh_evErr_bad ?_
        by_cases h1 : 0 ≤ x1 ∧ x1 ≤ 4
        · exact rh_rightB_what (x := (x1, x2, x3)) (fun h2 => hb1 ⟨h1.1, h1.2, h2.1, h2.2⟩)
        · exact rh_rightB_no (x := (x1, x2, x3)) h1
      subst hE1
      have hcs2 : x1 < 0 ∨ (¬ x1 < 0 ∧ 4 < x1) ∨ (¬ x1 < 0 ∧ ¬ 4 < x1 ∧ x2 < 1) ∨ (¬ x1 < 0 ∧ ¬ 4 < x1 ∧ ¬ x2 < 1 ∧ 3 < x2) := by omega
      clear hb1
      rcases hcs2 with h1 | ⟨h1, h2⟩ | ⟨h1, h2, h3⟩ | ⟨h1, h2, h3, h4⟩
      all_goals
        go_wp2
        go_ret2
        exact ⟨by rw [HST.out]; rfl, HE1.out.drop⟩
    obtain ⟨b1, b2, b3, b4⟩ := hb1
    have hk : (0 : Int) ≤ x1 ∧ x1 ≤ 4 := ⟨b1, b2⟩
    have n1 : ¬ x1 < 0 := by omega
    have n2 : ¬ 4 < x1 := by omega
    have n3 : ¬ x2 < 1 := by omega
    have n4 : ¬ 3 < x2 := by omega
    rcases (show x2 = 1 ∨ x2 = 2 ∨ x2 = 3 by omega) with rfl | rfl | rfl
    · have hR := rh_rightB_think (x := (x1, 1, x3)) hk rfl
      simp only at hR
      by_cases h3 : x3 = 0
      · have hE1 : E = 0 := by rw [HE.out]; exact rh_evErr_think (x := (x1, 1, x3)) (by rw [hR]; simp [h3]) rfl
        subst hE1 h3
        have HR := Lib.hid hR; have HK := Lib.hid hk
        clear hR hk
        go_wp2_with fail
        go_roundw
        case rel => exact ⟨i + 1, by omega, by go_num, Lib.hid (by have := HST.out; rw [if_neg (by simp)] at this; exact this.symm), Lib.hid (HRN.out rfl), Lib.hid HE1.out.drop⟩
        case measure => simp [intOf]; omega
      · have hE1 : E = 1 := by rw [HE.out]; exact rh_evErr_bad (x := (x1, 1, x3)) (by rw [hR]; simp [h3])
        subst hE1
        have t1 : (x3 != 0) = true := by simpa using h3
        have HR := Lib.hid hR; have HK := Lib.hid hk; have H3 := Lib.hid h3
        clear hR hk h3
        go_wp2
        go_ret2
        exact ⟨by rw [HST.out]; rfl, HE1.out.drop⟩
    · have hR := rh_rightB_word (x := (x1, 2, x3)) hk (.inl rfl)
      simp only at hR
      by_cases hw : 1 ≤ x3 ∧ x3 ≤ 30
      rotate_left
      · have hE1 : E = 1 := by rw [HE.out]; exact rh_evErr_bad (x := (x1, 2, x3)) (by rw [hR]; simp [isWord]; omega)
        subst hE1
        have hcs2 : x3 < 1 ∨ (¬ x3 < 1 ∧ 30 < x3) := by omega
        have HR := Lib.hid hR; have HK := Lib.hid hk
        clear hR hk
        clear hw
        rcases hcs2 with h1 | ⟨h1, h2⟩
        all_goals
          go_wp2
          go_ret2
          exact ⟨by rw [HST.out]; rfl, HE1.out.drop⟩
      have w1' : ¬ x3 < 1 := by omega
      have w2' : ¬ 30 < x3 := by omega
      have hE2 := rh_evErr_say (l := hs.take i) (x := (x1, 2, x3)) (by rw [hR]; simp [isWord]; omega) rfl
      have hbp := byOf_pos' (h := hs) (i := i) (by omega) HRT.out x3
      simp only at hE2
      rw [← HE.out] at hE2
      have HPG : Hid (Own w0 (EvO eb (x1, 2, x3) * R) w1) := HE1
      have HR := Lib.hid hR; have HK := Lib.hid hk; have HW := Lib.hid hw; have HE2 := Lib.hid hE2; have HBP := Lib.hid hbp
      clear hR hk hw hE2 hbp
      go_upto_block 2 with fail
      go_cut [6] (fun bv wx => bv = .int .i64 (byOf (hs.take i) x3) ∧ Own w0 (EvO eb (x1, 2, x3) * R) wx)
      case first =>
        refine rhIn w0 R eb n i cap _ hs (x1, 2, x3) hlt hn60 hlc hcap' HLN (Lib.hid (fun h3 => absurd h3 (by simp))) HRT HV HPG ?_
        intros
        go_step
        go_step
        go_meet
        assumption
      case rest =>
      obtain ⟨rfl, ho⟩ := hcut
      have HO2 := Lib.hid ho
      clear ho HPG HE1 e0 e1 e2
      obtain ⟨e0, e1, e2⟩ := HO2.out.ev
      simp only at e0 e1 e2
      obtain ⟨B, hB⟩ : ∃ B, B = byOf (hs.take i) x3 := ⟨_, rfl⟩
      rw [← hB]
      have HBP' : Hid (0 ≤ B ↔ 0 ≤ saidAt (hs.take i) x3) := Lib.hid (by rw [hB]; exact HBP.out)
      clear hB HBP
      by_cases h0 : 0 ≤ B
      · have hE1 : E = 7 := by rw [HE2.out, if_pos (HBP'.out.1 h0)]
        subst hE1
        go_wp2
        go_ret2
        exact ⟨by rw [HST.out]; rfl, HO2.out.drop⟩
      · have hE1 : E = 0 := by rw [HE2.out, if_neg (fun hh => h0 (HBP'.out.2 hh))]
        subst hE1
        go_wp2_with fail
        go_roundw
        case rel => exact ⟨i + 1, by omega, by go_num, Lib.hid (by have := HST.out; rw [if_neg (by simp)] at this; exact this.symm), Lib.hid (HRN.out rfl), Lib.hid HO2.out.drop⟩
        case measure => simp [intOf]; omega
    · have hR := rh_rightB_word (x := (x1, 3, x3)) hk (.inr rfl)
      simp only at hR
      by_cases hw : 1 ≤ x3 ∧ x3 ≤ 30
      rotate_left
      · have hE1 : E = 1 := by rw [HE.out]; exact rh_evErr_bad (x := (x1, 3, x3)) (by rw [hR]; simp [isWord]; omega)
        subst hE1
        have hcs2 : x3 < 1 ∨ (¬ x3 < 1 ∧ 30 < x3) := by omega
        have HR := Lib.hid hR; have HK := Lib.hid hk
        clear hR hk
        clear hw
        rcases hcs2 with h1 | ⟨h1, h2⟩
        all_goals
          go_wp2
          go_ret2
          exact ⟨by rw [HST.out]; rfl, HE1.out.drop⟩
      have w1' : ¬ x3 < 1 := by omega
      have w2' : ¬ 30 < x3 := by omega
      have hRR : rightB (x1, 3, x3) = true := by rw [hR]; simp [isWord]; omega
      by_cases hm : ((x1, 3, x3) : Ev) ∈ hs.take i
      · have hE1 : E = 7 := by rw [HE.out]; exact rh_evErr_again (x := (x1, 3, x3)) hRR rfl hm
        subst hE1
        obtain ⟨p, hp1, hp2, hp3, hp4⟩ := first_mem hm
        have HR := Lib.hid hR; have HK := Lib.hid hk; have HW := Lib.hid hw; have HRR := Lib.hid hRR; have HM := Lib.hid hm; have HP3 := Lib.hid hp3; have HP4 := Lib.hid hp4
        clear hR hk hw hRR hm hp3 hp4
        go_wp2_with fail
        go_loopw [7, 6] (fun kv bv wr => ∃ (k : Nat) (b : Int), k ≤ p ∧ kv = .int .i64 k ∧ bv = .int .i64 b ∧ Hid (Own w0 (EvO eb (x1, 3, x3) * R) wr)) (fun kv _ _ => p - (intOf kv).toNat)
        case atStart => exact ⟨0, -1, Nat.zero_le _, rfl, rfl, HE1⟩
        case round =>
          clear HE1 e0 e1 e2 HO
          obtain ⟨k, b, hkp, rfl, rfl, HO⟩ := hrel
          have hkl : k < hs.length := by omega
          have hki : k < i := by omega
          obtain ⟨aa', pb', po', ps', ea, hea, hcs, _⟩ := HV.out.more.at HO.out k hkl
          injection ea with ea
          subst ea
          obtain ⟨y, hy⟩ : ∃ y, y = evAt hs k := ⟨_, rfl⟩
          rw [← hy] at hcs
          have hyx : k < p → y ≠ (x1, 3, x3) := fun hkp => by rw [hy]; exact HP4.out k hkp
          have hyp : k = p → y = (x1, 3, x3) := fun hkp => by rw [hy, hkp]; exact HP3.out
          obtain ⟨c0, c1, c2⟩ := hcs _ HO.out
          obtain ⟨e0, e1, e2⟩ := HO.out.ev
          obtain ⟨y1, y2, y3⟩ := y
          simp only at c0 c1 c2 e0 e1 e2
          have i0 : (0 : Int) ≤ (k : Int) := by omega
          have i1 : (k : Int) < (n : Int) := by omega
          have i2 : (k : Int) < (i : Int) := by omega
          obtain ⟨S, hS⟩ : ∃ S, S = saysB x3 (y1, y2, y3) := ⟨_, rfl⟩
          have hS2 : S = (decide (y2 = 2) && decide (y3 = x3)) := hS
          clear hS
          have HCS := Lib.hid hcs; have HY := Lib.hid hy; have HS2 := Lib.hid hS2; have HYX := Lib.hid hyx; have HYP := Lib.hid hyp
          clear hcs hy hS2 hyx hyp
          go_wp2_with fail
          go_upto_region 16 with fail
          go_cut [87] from 72 to 87 (fun c wx => c = .bool S ∧ Own w0 (EvO eb (x1, 3, x3) * R) wx)
          case first =>
            by_cases a1 : y2 = 2
            rotate_left
            · have t1 : (y2 == 2) = false := by rw [beq_eq_false_iff_ne]; exact a1
              have hs1 : S = false := by rw [HS2.out]; simp [a1]
              have A1 := Lib.hid a1; have HS1 := Lib.hid hs1
              clear a1 hs1
              go_wp2_with fail
              go_quiet (fail)
              go_wp2_with fail
              go_meet
              exact ⟨by rw [HS1.out], HO.out.drewN _⟩
            subst a1
            by_cases a2 : y3 = x3
            · have hs1 : S = true := by rw [HS2.out]; simp [a2]
              subst a2
              have HS1 := Lib.hid hs1
              clear hs1
              go_wp2_with fail
              go_quiet (fail)
              go_wp2_with fail
              go_meet
              exact ⟨by rw [HS1.out], HO.out.drewN _⟩
            · have t2 : (y3 == x3) = false := by rw [beq_eq_false_iff_ne]; exact a2
              have hs1 : S = false := by rw [HS2.out]; simp [a2]
              have A2 := Lib.hid a2; have HS1 := Lib.hid hs1
              clear a2 hs1
              go_wp2_with fail
              go_quiet (fail)
              go_wp2_with fail
              go_meet
              exact ⟨by rw [HS1.out], HO.out.drewN _⟩
          case rest =>
          obtain ⟨rfl, ho⟩ := hcut
          clear HO e0 e1 e2 c0 c1 c2
          have HO2 := Lib.hid ho
          clear ho
          obtain ⟨c0, c1, c2⟩ := HCS.out _ HO2.out
          obtain ⟨e0, e1, e2⟩ := HO2.out.ev
          simp only at c0 c1 c2 e0 e1 e2
          go_upto_if 87 with fail
          go_cut [6] from 88 to 92 (fun bv wx => (∃ b : Int, bv = .int .i64 b) ∧ wx = wc)
          case first =>
            cases S
            · go_wp2_with fail
              go_meet
              exact ⟨⟨_, rfl⟩, rfl⟩
            · go_wp2_with fail
              go_meet
              exact ⟨⟨_, rfl⟩, rfl⟩
          case rest =>
          obtain ⟨⟨bq, rfl⟩, rfl⟩ := hcut
          go_upto_region 18 with fail
          by_cases hkp2 : k = p
          · have h1 := HYP.out hkp2
            have h2 : y1 = x1 ∧ y2 = 3 ∧ y3 = x3 := by simpa using h1
            obtain ⟨h2, h3, h4⟩ := h2
            rw [h2] at c0
            rw [h3] at c1
            rw [h4] at c2
            have H1 := Lib.hid h1; have H2 := Lib.hid h2; have H3 := Lib.hid h3; have H4 := Lib.hid h4; have HKP2 := Lib.hid hkp2
            clear h1 h2 h3 h4 hkp2
            go_wp2_with fail
            go_quiet (fail)
            have HO3 := Lib.hid (HO2.out.drewN nq)
            go_wp2_with fail
            go_ret2
            exact ⟨by rw [HST.out]; rfl, HO3.out.drop⟩
          have hlt2 : k < p := by omega
          go_cut [103] from 93 to 103 (fun c wx => c = .bool false ∧ Own w0 (EvO eb (x1, 3, x3) * R) wx)
          case first =>
            have hne := HYX.out hlt2
            by_cases b1 : y1 = x1
            rotate_left
            · have t1 : (y1 == x1) = false := by rw [beq_eq_false_iff_ne]; exact b1
              have B1 := Lib.hid b1; have HNE := Lib.hid hne
              clear b1 hne
              go_wp2_with fail
              go_quiet (fail)
              go_wp2_with fail
              go_meet
              exact ⟨rfl, HO2.out.drewN _⟩
            by_cases b2 : y2 = 3
            rotate_left
            · have t1 : (y2 == 3) = false := by rw [beq_eq_false_iff_ne]; exact b2
              rw [b1] at c0
              have B1 := Lib.hid b1
              clear b1
              have B2 := Lib.hid b2; have HNE := Lib.hid hne
              clear b2 hne
              go_wp2_with fail
              go_quiet (fail)
              go_wp2_with fail
              go_meet
              exact ⟨rfl, HO2.out.drewN _⟩
            have b3 : ¬ y3 = x3 := fun b3 => hne (by rw [b1, b2, b3])
            have t1 : (y3 == x3) = false := by rw [beq_eq_false_iff_ne]; exact b3
            rw [b1] at c0
            rw [b2] at c1
            have B1 := Lib.hid b1; have B2 := Lib.hid b2; have B3 := Lib.hid b3; have HNE := Lib.hid hne
            clear b1 b2 b3 hne
            go_wp2_with fail
            go_quiet (fail)
            go_wp2_with fail
            go_meet
            exact ⟨rfl, HO2.out.drewN _⟩
          case rest =>
          obtain ⟨rfl, ho⟩ := hcut
          have HO3 := Lib.hid ho
          clear ho HO2 e0 e1 e2 c0 c1 c2
          go_wp2_with fail
          go_roundw
          case rel => exact ⟨k + 1, bq, by omega, by go_num, rfl, HO3⟩
          case measure => simp [intOf]; omega
      have hE2 := rh_evErr_hear (l := hs.take i) (x := (x1, 3, x3)) hRR rfl hm
      have hbp := byOf_pos' (h := hs) (i := i) (by omega) HRT.out x3
      simp only at hE2
      rw [← HE.out] at hE2
      have HPG : Hid (Own w0 (EvO eb (x1, 3, x3) * R) w1) := HE1
      have HR := Lib.hid hR; have HK := Lib.hid hk; have HW := Lib.hid hw; have HE2 := Lib.hid hE2; have HBP := Lib.hid hbp; have HRR := Lib.hid hRR; have HM := Lib.hid hm
      clear hR hk hw hE2 hbp hRR hm
      go_upto_block 2 with fail
      go_cut [6] (fun bv wx => bv = .int .i64 (byOf (hs.take i) x3) ∧ Own w0 (EvO eb (x1, 3, x3) * R) wx)
      case first =>
        refine rhIn w0 R eb n i cap _ hs (x1, 3, x3) hlt hn60 hlc hcap' HLN (Lib.hid (fun _ => HM.out)) HRT HV HPG ?_
        intros
        go_step
        go_step
        go_meet
        assumption
      case rest =>
      obtain ⟨rfl, ho⟩ := hcut
      have HO2 := Lib.hid ho
      clear ho HPG HE1 e0 e1 e2
      obtain ⟨e0, e1, e2⟩ := HO2.out.ev
      simp only at e0 e1 e2
      obtain ⟨B, hB⟩ : ∃ B, B = byOf (hs.take i) x3 := ⟨_, rfl⟩
      have hE3 := HE2.out
      rw [← hB] at hE3 ⊢
      have HBP' : Hid (0 ≤ B ↔ 0 ≤ saidAt (hs.take i) x3) := Lib.hid (by rw [hB]; exact HBP.out)
      clear hB HBP
      have HE3 := Lib.hid hE3
      clear hE3
      by_cases h0 : B < 0
      · have hE1 : E = 5 := by rw [HE3.out, if_pos (by have := HBP'.out; omega)]
        subst hE1
        go_wp2
        go_ret2
        exact ⟨by rw [HST.out]; rfl, HO2.out.drop⟩
      by_cases h1 : B = x1
      · have hE1 : E = 3 := by rw [HE3.out, if_neg (by have := HBP'.out; omega), if_pos h1]
        subst hE1
        subst h1
        go_wp2
        go_ret2
        exact ⟨by rw [HST.out]; rfl, HO2.out.drop⟩
      · have hE1 : E = 0 := by rw [HE3.out, if_neg (by have := HBP'.out; omega), if_neg h1]
        subst hE1
        have t1 : (B == x1) = false := by rw [beq_eq_false_iff_ne]; exact h1
        go_wp2_with fail
        go_roundw
        case rel => exact ⟨i + 1, by omega, by go_num, Lib.hid (by have := HST.out; rw [if_neg (by simp)] at this; exact this.symm), Lib.hid (HRN.out rfl), Lib.hid HO2.out.drop⟩
        case measure => simp [intOf]; omega
set_option maxRecDepth 100000 in
set_option maxHeartbeats 4000000 in
theorem refRight_any {w0 w : World} {R : HProp} (v : Value) (hs : List Ev) (h : Own w0 R w) (hv : ReadsE w0 R v hs) :
    Calls Tryd.prog 17 #[v] w fun e w' => e = .returned (.int .i64 (histR hs).2) ∧ Own w0 R w' := by
  obtain ⟨A, hA⟩ : ∃ A, A = (histR hs).1 := ⟨_, rfl⟩
  obtain ⟨B, hB⟩ : ∃ B, B = (histR hs).2 := ⟨_, rfl⟩
  have hc := refHistory_any v hs h hv
  rw [← hA, ← hB] at hc
  rw [← hB]
  have H := Lib.hid h; have HV := Lib.hid hv; have HA := Lib.hid hA; have HB := Lib.hid hB; have HC := Lib.hid hc
  clear h hv hA hB hc
  go_enter Tryd.func17, Tryd.ntmps17
  go_wp2_with fail
  refine HC.out.mono ?_
  rintro e w2 ⟨rfl, ho⟩
  have HO2 := Lib.hid ho
  clear ho
  go_wp2
  go_ret
  exact ⟨rfl, HO2.out⟩
end Go.Proofs.YtljlnhbndkdlcaaDoor
/- cmp.Compare, cmp.Or at ints. -/
namespace Go.Proofs.YtljlnhbndkdlcaaDoor
set_option linter.unusedVariables false
set_option linter.unusedSimpArgs false
open Go.RowKit
def orI (x y : Int) : Int := if x = 0 then y else x
def cmpI (a b : Int) : Int := if a < b then -1 else if b < a then 1 else 0
set_option maxRecDepth 100000 in
set_option maxHeartbeats 4000000 in
theorem isNaN_any (a : Int) (w : World) :
    Calls Tryd.prog 63 #[.int .i64 a] w fun e w' => e = .returned (.bool false) ∧ w = w' := by
  have t1 : (a != a) = false := by rw [bne_eq_false_iff_eq]
  go_enter Tryd.func63, Tryd.ntmps63
  go_wp2
  go_ret
  exact ⟨rfl, rfl⟩
set_option maxRecDepth 100000 in
set_option maxHeartbeats 4000000 in
theorem compare_any (a b : Int) (w : World) :
    Calls Tryd.prog 44 #[.int .i64 a, .int .i64 b] w fun e w' => e = .returned (.int .i64 (cmpI a b)) ∧ w = w' := by
  by_cases h1 : a < b
  · have hc : cmpI a b = -1 := if_pos h1
    have t1 : decide (a < b) = true := by simpa using h1
    have HC := Lib.hid hc; have H1 := Lib.hid h1
    clear hc h1
    go_enter Tryd.func44, Tryd.ntmps44
    go_wp2_with fail
    refine (isNaN_any _ _).mono ?_
    rintro e w' ⟨rfl, rfl⟩
    go_wp2_with fail
    refine (isNaN_any _ _).mono ?_
    rintro e w' ⟨rfl, rfl⟩
    go_wp2
    go_ret
    exact ⟨by rw [show cmpI a b = -1 from HC.out]; rfl, rfl⟩
  have t1 : decide (a < b) = false := by simpa using h1
  by_cases h2 : b < a
  · have hc : cmpI a b = 1 := (if_neg h1).trans (if_pos h2)
    have t2 : decide (b < a) = true := by simpa using h2
    have HC := Lib.hid hc; have H1 := Lib.hid h1; have H2 := Lib.hid h2
    clear hc h1 h2
    go_enter Tryd.func44, Tryd.ntmps44
    go_wp2_with fail
    refine (isNaN_any _ _).mono ?_
    rintro e w' ⟨rfl, rfl⟩
    go_wp2_with fail
    refine (isNaN_any _ _).mono ?_
    rintro e w' ⟨rfl, rfl⟩
    go_wp2
    go_ret
    exact ⟨by rw [show cmpI a b = 1 from HC.out]; rfl, rfl⟩
  have hc : cmpI a b = 0 := (if_neg h1).trans (if_neg h2)
  have t2 : decide (b < a) = false := by simpa using h2
  have HC := Lib.hid hc; have H1 := Lib.hid h1; have H2 := Lib.hid h2
  clear hc h1 h2
  go_enter Tryd.func44, Tryd.ntmps44
  go_wp2_with fail
  refine (isNaN_any _ _).mono ?_
  rintro e w' ⟨rfl, rfl⟩
  go_wp2_with fail
  refine (isNaN_any _ _).mono ?_
  rintro e w' ⟨rfl, rfl⟩
  go_wp2
  go_ret
  exact ⟨by rw [show cmpI a b = 0 from HC.out]; rfl, rfl⟩
set_option maxRecDepth 100000 in
set_option maxHeartbeats 4000000 in
theorem orInt_any (b : Nat) (x y : Int) (w : World) (c0 : w.cell? ⟨b, 0, none⟩ = some (.int .i64 x)) (c1 : w.cell? ⟨b, 1, none⟩ = some (.int .i64 y)) :
    Calls Tryd.prog 43 #[.slice (some ⟨b, 0, none⟩) 2 2] w fun e w' => e = .returned (.int .i64 (orI x y)) ∧ w = w' := by
  go_enter Tryd.func43, Tryd.ntmps43
  go_wp2_with fail
  go_loopw [8] (fun iv wr => ∃ k : Nat, k ≤ 2 ∧ iv = .int .i64 k ∧ Hid (wr = w ∧ (0 < k → x = 0) ∧ (1 < k → y = 0))) (fun iv _ => 2 - (intOf iv).toNat)
  case atStart => exact ⟨0, by omega, rfl, Lib.hid ⟨rfl, by omega, by omega⟩⟩
  case round =>
    obtain ⟨k, hk, rfl, hp⟩ := hrel
    obtain ⟨rfl, h1, h2⟩ := hp.out
    by_cases h3 : k = 0
    · subst h3
      by_cases hx : x = 0
      · have t1 : (x != 0) = false := by rw [bne_eq_false_iff_eq]; exact hx
        have HX := Lib.hid hx; have H1 := Lib.hid h1; have H2 := Lib.hid h2
        clear hx h1 h2
        go_wp2
        go_roundw
        case rel => exact ⟨1, by omega, rfl, Lib.hid (by refine ⟨?_, fun _ => HX.out, fun h => by omega⟩; first | rfl | trivial)⟩
        case measure => simp [intOf]
      · have t1 : (x != 0) = true := by rw [bne_iff_ne]; exact hx
        have HX := Lib.hid hx; have H1 := Lib.hid h1; have H2 := Lib.hid h2
        clear hx h1 h2
        go_wp2
        go_ret
        exact ⟨by rw [show orI x y = x from if_neg HX.out]; rfl, rfl⟩
    have hx : x = 0 := h1 (by omega)
    by_cases h4 : k = 1
    · subst h4
      by_cases hy : y = 0
      · have t1 : (y != 0) = false := by rw [bne_eq_false_iff_eq]; exact hy
        have HX := Lib.hid hx; have HY := Lib.hid hy; have H1 := Lib.hid h1; have H2 := Lib.hid h2
        clear hx hy h1 h2
        go_wp2
        go_roundw
        case rel => exact ⟨2, by omega, rfl, Lib.hid (by refine ⟨?_, fun _ => HX.out, fun _ => HY.out⟩; first | rfl | trivial)⟩
        case measure => simp [intOf]
      · have t1 : (y != 0) = true := by rw [bne_iff_ne]; exact hy
        have HX := Lib.hid hx; have HY := Lib.hid hy; have H1 := Lib.hid h1; have H2 := Lib.hid h2
        clear hx hy h1 h2
        go_wp2
        go_ret
        exact ⟨by rw [show orI x y = y from if_pos HX.out]; rfl, rfl⟩
    have h5 : k = 2 := by omega
    subst h5
    have hy : y = 0 := h2 (by omega)
    have HX := Lib.hid hx; have HY := Lib.hid hy; have H1 := Lib.hid h1; have H2 := Lib.hid h2; have H3 := Lib.hid h3; have H4 := Lib.hid h4
    clear hx hy h1 h2 h3 h4
    go_wp2
    go_ret
    exact ⟨by rw [show orI x y = 0 from (if_pos HX.out).trans HY.out]; rfl, rfl⟩
end Go.Proofs.YtljlnhbndkdlcaaDoor
/- clock.Order's closure. -/
namespace Go.Proofs.YtljlnhbndkdlcaaDoor
set_option linter.unusedVariables false
set_option linter.unusedSimpArgs false
open Go.RowKit
def ordC (h : List Ev) (x y : Nat) : Int := orI (cmpI (nAt h x) (nAt h y)) (cmpI (evAt h x).1 (evAt h y).1)
theorem ordC_lt (h : List Ev) (x y : Nat) : ordC h x y < 0 ↔ ordLt h x y := by
  unfold ordC ordLt orI cmpI
  by_cases h1 : nAt h x < nAt h y
  · simp [h1]
  · by_cases h2 : nAt h y < nAt h x
    · have h3 : ¬ nAt h x = nAt h y := by omega
      simp [h1, h2, h3]
    · have h3 : nAt h x = nAt h y := by omega
      by_cases h4 : (evAt h x).1 < (evAt h y).1
      · simp [h3, h4]
      · by_cases h5 : (evAt h y).1 < (evAt h x).1 <;> simp [h3, h4, h5]
theorem natsI_fin (n : Nat) : (List.finRange n).map (·.val) = List.range n := List.ext_getElem (by simp) (by simp)
instance instDecOrd (h : List Ev) (a b : Nat) : Decidable (ordLt h a b) := by unfold ordLt; infer_instance
def natsI (l : List Nat) : List Int := l.map fun (i : Nat) => (i : Int)
theorem natsI_range (k : Nat) : natsI (List.range (k + 1)) = natsI (List.range k) ++ [(k : Int)] := by unfold natsI; rw [List.range_succ, List.map_append]; rfl
theorem natsI_len (l : List Nat) : (natsI l).length = l.length := by simp [natsI]
set_option maxRecDepth 100000 in
set_option maxHeartbeats 4000000 in
theorem order1_any (nb hb n ncap hcap x y : Nat) (nad had : Addr) (xb xo yb yo : Nat) (xs ys : Option Nat) (ex ey nx ny : Int) (w : World) (hx : x < n) (hy : y < n) (hn : n ≤ 60) (hnc : n ≤ ncap) (hhc : n ≤ hcap) (hex : had.add (x * 3) = ⟨xb, xo, xs⟩) (hey : had.add (y * 3) = ⟨yb, yo, ys⟩) (c0 : w.cell? ⟨nb, 0, none⟩ = some (.slice (some nad) n ncap)) (c1 : w.cell? ⟨hb, 0, none⟩ = some (.slice (some had) n hcap)) (n0 : w.cell? (nad.add x) = some (.int .i64 nx)) (n1 : w.cell? (nad.add y) = some (.int .i64 ny)) (e0 : w.cell? ⟨xb, xo, xs⟩ = some (.int .i64 ex)) (e1 : w.cell? ⟨yb, yo, ys⟩ = some (.int .i64 ey)) :
    Calls Tryd.prog 42 #[.int .i64 (x : Int), .int .i64 (y : Int), .pointer (some ⟨nb, 0, none⟩), .pointer (some ⟨hb, 0, none⟩)] w fun e w' => e = .returned (.int .i64 (orI (cmpI nx ny) (cmpI ex ey))) ∧ ∃ q os', w' = Go.Sort.grow (w.drewN q) os' := by
  have x0 : (0 : Int) ≤ (x : Int) := by omega
  have y0 : (0 : Int) ≤ (y : Int) := by omega
  have xn : (x : Int) < (n : Int) := by omega
  have yn : (y : Int) < (n : Int) := by omega
  have HO := Own.start w
  obtain ⟨b3, hb_b3⟩ : ∃ zz_, zz_ = (w).heap.size := ⟨_, rfl⟩
  obtain ⟨w3, hw_w3⟩ : ∃ zz_, zz_ = (w).alloc (.cells #[.int .i64 (cmpI nx ny), .int .i64 (cmpI ex ey)] 3 (0, 0)) := ⟨_, rfl⟩
  have h_H3 := (HO).alloc (.cells #[.int .i64 (cmpI nx ny), .int .i64 (cmpI ex ey)] 3 (0, 0))
  rw [← hb_b3, ← hw_w3] at h_H3
  have H3 := Lib.hid h_H3
  clear h_H3
  have z0 : w3.drew.cell? ⟨b3, 0, none⟩ = some (.int .i64 (cmpI nx ny)) := (H3.out.drew.cell 0).trans rfl
  have z1 : w3.drew.cell? ⟨b3, 1, none⟩ = some (.int .i64 (cmpI ex ey)) := (H3.out.drew.cell 1).trans rfl
  have hold : ∀ a v, w.cell? a = some v → w3.drew.cell? a = some v := fun a v h => by
    rw [hw_w3]
    exact (World.cell?_alloc_lt _ _ _ (World.block_lt_of_cell? _ _ h)).trans h
  have HR : Hid (w3.drew = Go.Sort.grow (w.drewN 1) #[.cells #[.int .i64 (cmpI nx ny), .int .i64 (cmpI ex ey)] 3 (0, 0)]) := Lib.hid (by rw [hw_w3, Go.Sort.alloc_eq_grow]; rfl)
  have HK0 := Lib.hid (show _ ∧ _ ∧ _ ∧ _ ∧ _ ∧ _ from ⟨hold _ _ c0, hold _ _ c1, hold _ _ n0, hold _ _ n1, hold _ _ e0, hold _ _ e1⟩)
  clear hold H3 HO
  have HX := Lib.hid hx; have HY := Lib.hid hy; have HN := Lib.hid hn
  clear hx hy hn
  go_enter Tryd.func42, Tryd.ntmps42
  go_wp2_with fail
  refine wp_region_planH 22 [] [(true, 0), (true, 1), (true, 2), (true, 3), (true, 4), (true, 5), (true, 6), (true, 7), (true, 9), (true, 10), (true, 11), (true, 12), (true, 13), (true, 14), (true, 15), (true, 16), (true, 17), (true, 18), (false, 8), (false, 19), (false, 20), (false, 21)] [22] (fun wS => wS.cell? ⟨nb, 0, none⟩ = some (.slice (some nad) n ncap) ∧ wS.cell? ⟨hb, 0, none⟩ = some (.slice (some had) n hcap) ∧ wS.cell? (nad.add x) = some (.int .i64 nx) ∧ wS.cell? (nad.add y) = some (.int .i64 ny) ∧ wS.cell? ⟨xb, xo, xs⟩ = some (.int .i64 ex) ∧ wS.cell? ⟨yb, yo, ys⟩ = some (.int .i64 ey)) (by kernel_rfl) (by kernel_rfl) (⟨c0, c1, n0, n1, e0, e1⟩) ?_
  simp only [pickH, pick, List.getElem?_cons_succ, List.getElem?_cons_zero, Option.toList, Option.map_some, List.cons_append, List.nil_append]
  repeat (refine wpPure_step ?_ rfl ?_ ?_; rotate_left; (focus (intro _; first | with_reducible rfl | (go_simp; done) | (go_simp; with_reducible rfl) | rfl)); go_simp)
  refine wpPure_nil ?_
  repeat (refine wpMix_read ?_ rfl ?_ ?_; rotate_left; (focus (intro _ hS; obtain ⟨s1, s2, s3, s4, s5, s6⟩ := hS; first | with_reducible rfl | (go_simp; done) | (go_simp; with_reducible rfl) | rfl)); go_simp)
  refine wpMix_write (fun K hK => ?_)
  go_simp
  refine (compare_any _ _ _).mono ?_
  rintro e w' ⟨rfl, rfl⟩
  refine hK _ _ ⟨⟨c0, c1, n0, n1, e0, e1⟩, ?_⟩
  clear hK K
  go_simp
  refine wpMix_write (fun K hK => ?_)
  go_simp
  refine (compare_any _ _ _).mono ?_
  rintro e w' ⟨rfl, rfl⟩
  refine hK _ _ ⟨⟨c0, c1, n0, n1, e0, e1⟩, ?_⟩
  clear hK K
  go_simp
  refine wpMix_write (fun K hK => ?_)
  go_simp
  rw [← hb_b3, ← hw_w3]
  clear hb_b3 hw_w3
  refine hK _ _ ⟨HK0.out, ?_⟩
  clear hK K
  go_simp
  refine wpMix_write (fun K hK => ?_)
  go_simp
  refine (orInt_any b3 _ _ _ z0 z1).mono ?_
  rintro e w' ⟨rfl, rfl⟩
  refine hK _ _ ⟨HK0.out, ?_⟩
  clear hK K
  go_simp
  refine wpMix_nil ?_
  go_wp2_with fail
  refine NoPanic.normal ?_
  go_wp2
  go_ret
  exact ⟨rfl, 1, _, HR.out⟩
end Go.Proofs.YtljlnhbndkdlcaaDoor
/- slices.SortFunc at ints: that the loaded program bears the texts that the library's contract speaks of. -/
namespace Go.Proofs.YtljlnhbndkdlcaaDoor
set_option linter.unusedVariables false
set_option linter.unusedSimpArgs false
open Go.RowKit Go.Proofs
def sortRen : Go.Shelf.Ren := ⟨fun | 6 => 41 | 14 => 61 | 15 => 62 | 20 => 82 | 21 => 83 | 22 => 84 | 23 => 85 | 24 => 86 | 25 => 87 | 26 => 88 | 27 => 89 | 28 => 90 | 29 => 91 | 46 => 104 | 47 => 105 | 48 => 106 | 49 => 107 | 50 => 108 | 57 => 115 | n => n, fun | 0 => 0 | 3 => 3 | 4 => 4 | 5 => 5 | 9 => 9 | 22 => 32 | 24 => 3 | 25 => 76 | 39 => 95 | 45 => 118 | 46 => 119 | 50 => 123 | 53 => 112 | 55 => 127 | 66 => 148 | 70 => 152 | 76 => 157 | 77 => 69 | n => n, fun n => n⟩
theorem sortL : SlLaysF.n6 Tryd.prog sortRen where
  mixed := by kernel_rfl
  f6 := ⟨Tryd.f41.name, by kernel_rfl, Tryd.func41.trans (congrArg some (by kernel_rfl))⟩
  f14 := ⟨Tryd.f61.name, by kernel_rfl, Tryd.func61.trans (congrArg some (by kernel_rfl))⟩
  f15 := Tryd.func62.trans (congrArg some (by kernel_rfl))
  f20 := ⟨Tryd.f82.name, by kernel_rfl, Tryd.func82.trans (congrArg some (by kernel_rfl))⟩
  f21 := ⟨Tryd.f83.name, by kernel_rfl, Tryd.func83.trans (congrArg some (by kernel_rfl))⟩
  f22 := ⟨Tryd.f84.name, by kernel_rfl, Tryd.func84.trans (congrArg some (by kernel_rfl))⟩
  f23 := ⟨Tryd.f85.name, by kernel_rfl, Tryd.func85.trans (congrArg some (by kernel_rfl))⟩
  f24 := ⟨Tryd.f86.name, by kernel_rfl, Tryd.func86.trans (congrArg some (by kernel_rfl))⟩
  f25 := ⟨Tryd.f87.name, by kernel_rfl, Tryd.func87.trans (congrArg some (by kernel_rfl))⟩
  f26 := ⟨Tryd.f88.name, by kernel_rfl, Tryd.func88.trans (congrArg some (by kernel_rfl))⟩
  f27 := ⟨Tryd.f89.name, by kernel_rfl, Tryd.func89.trans (congrArg some (by kernel_rfl))⟩
  f28 := Tryd.func90.trans (congrArg some (by kernel_rfl))
  f29 := Tryd.func91.trans (congrArg some (by kernel_rfl))
  f46 := ⟨Tryd.f104.name, by kernel_rfl, Tryd.func104.trans (congrArg some (by kernel_rfl))⟩
  f47 := Tryd.func105.trans (congrArg some (by kernel_rfl))
  f48 := Tryd.func106.trans (congrArg some (by kernel_rfl))
  f49 := ⟨Tryd.f107.name, by kernel_rfl, Tryd.func107.trans (congrArg some (by kernel_rfl))⟩
  f50 := ⟨Tryd.f108.name, by kernel_rfl, Tryd.func108.trans (congrArg some (by kernel_rfl))⟩
  f57 := ⟨Tryd.f115.name, by kernel_rfl, Tryd.func115.trans (congrArg some (by kernel_rfl))⟩
  t0 := Tryd.underlying0
  a0 := Tryd.isAgg0
  z0 := Tryd.sizeOf0
  v0 := Tryd.zeroValue0
  t3 := Tryd.underlying3
  a3 := Tryd.isAgg3
  z3 := Tryd.sizeOf3
  v3 := Tryd.zeroValue3
  t4 := Tryd.underlying4
  a4 := Tryd.isAgg4
  z4 := Tryd.sizeOf4
  v4 := Tryd.zeroValue4
  t5 := Tryd.underlying5
  a5 := Tryd.isAgg5
  z5 := Tryd.sizeOf5
  v5 := Tryd.zeroValue5
  t9 := Tryd.underlying9
  a9 := Tryd.isAgg9
  z9 := Tryd.sizeOf9
  v9 := Tryd.zeroValue9
  t22 := Tryd.underlying32
  a22 := Tryd.isAgg32
  z22 := Tryd.sizeOf32
  v22 := Tryd.zeroValue32
  a24 := Tryd.isAgg3
  z24 := Tryd.sizeOf3
  t25 := Tryd.underlying76
  a25 := Tryd.isAgg76
  z25 := Tryd.sizeOf76
  v25 := Tryd.zeroValue76
  t39 := Tryd.underlying95
  a39 := Tryd.isAgg95
  z39 := Tryd.sizeOf95
  v39 := Tryd.zeroValue95
  t45 := Tryd.underlying118
  a45 := Tryd.isAgg118
  z45 := Tryd.sizeOf118
  v45 := Tryd.zeroValue118
  t46 := Tryd.underlying119
  a46 := Tryd.isAgg119
  z46 := Tryd.sizeOf119
  v46 := Tryd.zeroValue119
  t50 := Tryd.underlying123
  a50 := Tryd.isAgg123
  z50 := Tryd.sizeOf123
  v50 := Tryd.zeroValue123
  t53 := Tryd.underlying112
  a53 := Tryd.isAgg112
  z53 := Tryd.sizeOf112
  v53 := Tryd.zeroValue112
  t55 := Tryd.underlying127
  a55 := Tryd.isAgg127
  z55 := Tryd.sizeOf127
  v55 := Tryd.zeroValue127
  t66 := Tryd.underlying148
  a66 := Tryd.isAgg148
  z66 := Tryd.sizeOf148
  v66 := Tryd.zeroValue148
  t70 := Tryd.underlying152
  a70 := Tryd.isAgg152
  z70 := Tryd.sizeOf152
  v70 := Tryd.zeroValue152
  t76 := Tryd.underlying157
  a76 := Tryd.isAgg157
  z76 := Tryd.sizeOf157
  v76 := Tryd.zeroValue157
  t77 := Tryd.underlying69
  a77 := Tryd.isAgg69
  z77 := Tryd.sizeOf69
  v77 := Tryd.zeroValue69
end Go.Proofs.YtljlnhbndkdlcaaDoor
/- Parts of what is owned brought to the front; a literal of ints. -/
namespace Go.Proofs.YtljlnhbndkdlcaaDoor
set_option linter.unusedVariables false
set_option linter.unusedSimpArgs false
open Go.RowKit
section
variable {w0 w : World} {A B C D E F G H R : HProp}
theorem Own.second (h : Own w0 (A * (B * R)) w) : Own w0 (B * (A * R)) w := h.perm (by ac_rfl)
theorem Own.third (h : Own w0 (A * (B * (C * R))) w) : Own w0 (C * (A * (B * R))) w := h.perm (by ac_rfl)
theorem Own.fourth (h : Own w0 (A * (B * (C * (D * R)))) w) : Own w0 (D * (A * (B * (C * R)))) w := h.perm (by ac_rfl)
theorem Own.fifth (h : Own w0 (A * (B * (C * (D * (E * R))))) w) : Own w0 (E * (A * (B * (C * (D * R))))) w := h.perm (by ac_rfl)
theorem Own.sixth (h : Own w0 (A * (B * (C * (D * (E * (F * R)))))) w) : Own w0 (F * (A * (B * (C * (D * (E * R))))) ) w := h.perm (by ac_rfl)
theorem Own.seventh (h : Own w0 (A * (B * (C * (D * (E * (F * (G * R))))))) w) : Own w0 (G * (A * (B * (C * (D * (E * (F * R)))))) ) w := h.perm (by ac_rfl)
/-- The front put back to the third, fourth, .. place. -/
theorem Own.to3 (h : Own w0 (A * (B * (C * R))) w) : Own w0 (B * (C * (A * R))) w := h.perm (by ac_rfl)
theorem Own.to4 (h : Own w0 (A * (B * (C * (D * R)))) w) : Own w0 (B * (C * (D * (A * R)))) w := h.perm (by ac_rfl)
theorem Own.to5 (h : Own w0 (A * (B * (C * (D * (E * R))))) w) : Own w0 (B * (C * (D * (E * (A * R))))) w := h.perm (by ac_rfl)
theorem Own.to6 (h : Own w0 (A * (B * (C * (D * (E * (F * R)))))) w) : Own w0 (B * (C * (D * (E * (F * (A * R)))))) w := h.perm (by ac_rfl)
end
theorem Own.only {w0 w : World} {P R : HProp} (h : Own w0 (P * R) w) : Own w0 (P * emp) w := by rw [star_emp]; exact h.drop2
theorem Own.litI {w0 w : World} {b : Nat} {R : HProp} (l : List Int) (k : Nat) (hk : l.length = k) (hm : k ≤ 1000) (h : Own w0 (blk b (.cells (l.map (Value.int .i64)).toArray 3 (0, 0)) * R) w) : Own w0 (IntSl (.slice (some ⟨b, 0, none⟩) k k) l * R) w := by
  unfold IntSl
  subst hk
  exact Own.sl_mk (Nat.le_refl _) (by unfold maxLen; omega) (by simp) (by simp) (fun i hi => by simp) h
end Go.Proofs.YtljlnhbndkdlcaaDoor
