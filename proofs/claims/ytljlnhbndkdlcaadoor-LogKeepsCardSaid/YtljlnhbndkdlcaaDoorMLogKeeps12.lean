/- The reference's history, continued: History, Right. -/
import Derived.Test.YtljlnhbndkdlcaaDoorMLogKeeps11
import Derived.Test.YtljlnhbndkdlcaaDoorMLogKeeps7
namespace Go.Proofs.YtljlnhbndkdlcaaDoor
set_option linter.unusedVariables false
set_option linter.unusedSimpArgs false
open Go.RowKit
theorem rh_rightB_no {x : Ev} (h : ¬ (0 ≤ x.1 ∧ x.1 ≤ 4)) : rightB x = false := by
  unfold rightB
  have : isMember x.1 = false := by
    cases hm : isMember x.1
    · rfl
    · exfalso; apply h; unfold isMember at hm; simp at hm; omega
  rw [this]; rfl
theorem rh_rightB_what {x : Ev} (h : ¬ (1 ≤ x.2.1 ∧ x.2.1 ≤ 3)) : rightB x = false := by
  unfold rightB
  rw [if_neg (by omega), decide_eq_false (by omega), decide_eq_false (by omega)]
  simp
theorem rh_rightB_think {x : Ev} (h : 0 ≤ x.1 ∧ x.1 ≤ 4) (h1 : x.2.1 = 1) : rightB x = decide (x.2.2 = 0) := by
  unfold rightB
  have : isMember x.1 = true := by unfold isMember; simp; omega
  rw [if_pos h1, this]; rfl
theorem rh_rightB_word {x : Ev} (h : 0 ≤ x.1 ∧ x.1 ≤ 4) (h1 : x.2.1 = 2 ∨ x.2.1 = 3) : rightB x = isWord x.2.2 := by
  unfold rightB
  have : isMember x.1 = true := by unfold isMember; simp; omega
  rw [if_neg (by omega), this]
  rcases h1 with h1 | h1 <;> rw [h1] <;> simp
theorem rh_evErr_bad {l : List Ev} {x : Ev} (h : rightB x = false) : evErr l x = 1 := by unfold evErr; rw [if_pos h]
theorem rh_evErr_think {l : List Ev} {x : Ev} (h : rightB x = true) (h1 : x.2.1 = 1) : evErr l x = 0 := by
  unfold evErr
  rw [if_neg (by rw [h]; simp), if_neg (by omega), if_neg (by omega), if_neg (by omega)]
theorem rh_evErr_say {l : List Ev} {x : Ev} (h : rightB x = true) (h1 : x.2.1 = 2) : evErr l x = if 0 ≤ saidAt l x.2.2 then 7 else 0 := by
  unfold evErr
  rw [if_neg (by rw [h]; simp)]
  by_cases h2 : 0 ≤ saidAt l x.2.2
  · rw [if_pos (.inl ⟨h1, h2⟩), if_pos h2]
  · rw [if_neg (by rintro (⟨_, h3⟩ | ⟨h3, _⟩) <;> omega), if_neg h2, if_neg (by omega), if_neg (by omega)]
theorem rh_evErr_hear {l : List Ev} {x : Ev} (h : rightB x = true) (h1 : x.2.1 = 3) (hm : x ∉ l) : evErr l x = if saidAt l x.2.2 < 0 then 5 else if byOf l x.2.2 = x.1 then 3 else 0 := by
  unfold evErr
  rw [if_neg (by rw [h]; simp), if_neg (by rintro (⟨h3, _⟩ | ⟨_, h3⟩); omega; exact hm h3)]
  by_cases h2 : saidAt l x.2.2 < 0
  · rw [if_pos ⟨h1, h2⟩, if_pos h2]
  · rw [if_neg (fun hh : x.2.1 = 3 ∧ saidAt l x.2.2 < 0 => h2 hh.2), if_neg h2]
    unfold byOf
    rw [if_pos (show 0 ≤ saidAt l x.2.2 by omega)]
    by_cases h4 : (evAt l (saidAt l x.2.2).toNat).1 = x.1
    · rw [if_pos ⟨h1, h4⟩, if_pos h4]
    · rw [if_neg (fun hh => h4 hh.2), if_neg h4]
theorem rh_evErr_again {l : List Ev} {x : Ev} (h : rightB x = true) (h1 : x.2.1 = 3) (hm : x ∈ l) : evErr l x = 7 := by
  unfold evErr
  rw [if_neg (by rw [h]; simp), if_pos (.inr ⟨h1, hm⟩)]
theorem rh_evErr_right {l : List Ev} {x : Ev} (h : evErr l x = 0) : rightB x = true := by
  cases hr : rightB x
  · rw [rh_evErr_bad hr] at h; cases h
  · rfl
theorem byOf_pos' {h : List Ev} {i : Nat} (hi : i ≤ h.length) (hr : ∀ j, j < i → evErr (h.take j) (evAt h j) = 0) (w : Int) : (0 ≤ byOf (h.take i) w ↔ 0 ≤ saidAt (h.take i) w) := by
  refine byOf_pos (fun k hk => ?_) w
  have hk' : k < i := by simp at hk; omega
  have := rh_evErr_right (hr k hk')
  have hev : evAt h k = h[k]'(by omega) := by unfold evAt; rw [List.getD_eq_getElem?_getD, List.getElem?_eq_getElem (by omega)]; rfl
  rw [hev] at this
  rw [List.getElem_take]
  exact this
theorem first_mem {l : List Ev} {x : Ev} {i : Nat} (h : x ∈ l.take i) : ∃ p, p < i ∧ p < l.length ∧ evAt l p = x ∧ ∀ k, k < p → evAt l k ≠ x := by
  have ex : ∃ p, p < i ∧ p < l.length ∧ evAt l p = x := by
    rw [List.mem_take_iff_getElem] at h
    obtain ⟨p, hp, he⟩ := h
    exact ⟨p, by omega, by omega, by unfold evAt; rw [List.getD_eq_getElem?_getD, List.getElem?_eq_getElem (by omega)]; exact he⟩
  obtain ⟨p, h1, h2, h3⟩ := ex
  induction p using Nat.strongRecOn with
  | _ p ih =>
    by_cases hc : ∃ k, k < p ∧ evAt l k = x
    · obtain ⟨k, hk, he⟩ := hc
      exact ih k hk (by omega) (by omega) he
    · exact ⟨p, h1, h2, h3, fun k hk he => hc ⟨k, hk, he⟩⟩
set_option maxRecDepth 100000 in
set_option maxHeartbeats 4000000 in
theorem refHistory_any {w0 w : World} {R : HProp} (v : Value) (hs : List Ev) (h : Own w0 R w) (hv : ReadsE w0 R v hs) :
    Calls Tryd.prog 37 #[v] w fun e w' => e = .returned (.tuple #[.int .i64 (histR hs).1, .int .i64 (histR hs).2]) ∧ Own w0 R w' := by
  obtain ⟨ad, cap, rfl, hlc, hcap⟩ := (hv _ h).shape
  obtain ⟨n, hn⟩ : ∃ n, n = hs.length := ⟨_, rfl⟩
  rw [← hn] at hv hlc ⊢
  have hcap' : cap ≤ 9223372036854775807 := hcap
  by_cases hlen : 60 < n
  · have hr : histR hs = (0, 4) := by unfold histR; rw [if_pos (by omega)]
    have H := Lib.hid h; have HV := Lib.hid hv; have HR := Lib.hid hr; have HN := Lib.hid hn
    clear h hv hr hn
    go_enter Tryd.func37, Tryd.ntmps37
    go_wp2
    go_ret2
    exact ⟨by rw [HR.out]; rfl, H.out⟩
  have hn60 : n ≤ 60 := by omega
  have hr : histR hs = histGo [] hs := by unfold histR; rw [if_neg (by omega)]
  have HLN := Lib.hid hn.symm
  clear hlen
  have H := Lib.hid h; have HV := Lib.hid hv; have HR := Lib.hid hr; have HN := Lib.hid hn
  clear h hv hr hn
  go_enter Tryd.func37, Tryd.ntmps37
  go_wp2_with fail
  go_loopw [4] (fun iv wr => ∃ i : Nat, i ≤ n ∧ iv = .int .i64 i ∧ Hid (histGo (hs.take i) (hs.drop i) = histR hs) ∧ Hid (∀ j, j < i → evErr (hs.take j) (evAt hs j) = 0) ∧ Hid (Own w0 R wr)) (fun iv _ => n - (intOf iv).toNat)
  case atStart => exact ⟨0, Nat.zero_le _, rfl, Lib.hid HR.out.symm, Lib.hid (fun j hj => by omega), H⟩
  case round =>
    clear HR H
    obtain ⟨i, hi, rfl, HP, HRT, HO⟩ := hrel
    by_cases hlt : i < n
    rotate_left
    · have hfin : histR hs = (0, 0) := by
        have := HP.out
        rw [List.drop_of_length_le (by rw [HLN.out]; omega)] at this
        rw [← this]; unfold histGo; rfl
      have HFIN := Lib.hid hfin
      clear hfin
      go_wp2
      go_ret2
      exact ⟨by rw [HFIN.out]; rfl, HO.out⟩
    have hil : i < hs.length := by rw [HLN.out]; exact hlt
    obtain ⟨aa, pb, po, ps, rfl, hea, hcs, hgd⟩ := HV.out.at HO.out i hil
    have hst := histGo_step hil
    rw [HP.out] at hst
    obtain ⟨x, hx⟩ : ∃ x, x = evAt hs i := ⟨_, rfl⟩
    rw [← hx] at hcs hst hgd
    obtain ⟨c0, c1, c2⟩ := hcs _ HO.out
    obtain ⟨E, hE⟩ : ∃ E, E = evErr (hs.take i) x := ⟨_, rfl⟩
    rw [← hE] at hst
    have HRN : Hid (E = 0 → ∀ j, j < i + 1 → evErr (hs.take j) (evAt hs j) = 0) := Lib.hid (fun h0 j hj => by
      by_cases e : j = i
      · subst e; rw [← hx, ← hE]; exact h0
      · exact HRT.out j (by omega))
    obtain ⟨x1, x2, x3⟩ := x
    obtain ⟨eb, hb_eb⟩ : ∃ zz_, zz_ = (wr).heap.size := ⟨_, rfl⟩
    obtain ⟨w1, hw_w1⟩ : ∃ zz_, zz_ = (wr).alloc (.cells #[.int .i64 x1, .int .i64 x2, .int .i64 x3] 28 (0, 0)) := ⟨_, rfl⟩
    have h_HO1 := (HO.out).alloc (.cells #[.int .i64 x1, .int .i64 x2, .int .i64 x3] 28 (0, 0))
    rw [← hb_eb, ← hw_w1] at h_HO1
    have HO1 := Lib.hid h_HO1
    clear h_HO1
    have HE1 : Hid (Own w0 (EvO eb (x1, x2, x3) * R) w1) := HO1
    clear HO1
    obtain ⟨e0, e1, e2⟩ := HE1.out.ev
    simp only at c0 c1 c2 e0 e1 e2 hst hgd
    have HX := Lib.hid hx
    have HGD := Lib.hid hgd
    clear hx hgd
    have HST := Lib.hid hst; have HE := Lib.hid hE
    clear hst hE
    go_upto_region 7 with fail
    rw [← hb_eb, ← hw_w1]
    clear hb_eb hw_w1
    clear c0 c1 c2 hea
    by_cases hb1 : 0 ≤ x1 ∧ x1 ≤ 4 ∧ 1 ≤ x2 ∧ x2 ≤ 3
    rotate_left
    · have hE1 : E = 1 := by
        rw [HE.out]
        refine rh_evErr_bad ?_
        by_cases h1 : 0 ≤ x1 ∧ x1 ≤ 4
        · exact rh_rightB_what (x := (x1, x2, x3)) (fun h2 => hb1 ⟨h1.1, h1.2, h2.1, h2.2⟩)
        · exact rh_rightB_no (x := (x1, x2, x3)) h1
      subst hE1
      have hcs2 : x1 < 0 ∨ (¬ x1 < 0 ∧ 4 < x1) ∨ (¬ x1 < 0 ∧ ¬ 4 < x1 ∧ x2 < 1) ∨ (¬ x1 < 0 ∧ ¬ 4 < x1 ∧ ¬ x2 < 1 ∧ 3 < x2) := by omega
      clear hb1
      rcases hcs2 with h1 | ⟨h1, h2⟩ | ⟨h1, h2, h3⟩ | ⟨h1, h2, h3, h4⟩
      all_goals
        go_wp2
        go_ret2
        exact ⟨by rw [HST.out]; rfl, HE1.out.drop⟩
    obtain ⟨b1, b2, b3, b4⟩ := hb1
    have hk : (0 : Int) ≤ x1 ∧ x1 ≤ 4 := ⟨b1, b2⟩
    have n1 : ¬ x1 < 0 := by omega
    have n2 : ¬ 4 < x1 := by omega
    have n3 : ¬ x2 < 1 := by omega
    have n4 : ¬ 3 < x2 := by omega
    rcases (show x2 = 1 ∨ x2 = 2 ∨ x2 = 3 by omega) with rfl | rfl | rfl
    · have hR := rh_rightB_think (x := (x1, 1, x3)) hk rfl
      simp only at hR
      by_cases h3 : x3 = 0
      · have hE1 : E = 0 := by rw [HE.out]; exact rh_evErr_think (x := (x1, 1, x3)) (by rw [hR]; simp [h3]) rfl
        subst hE1 h3
        have HR := Lib.hid hR; have HK := Lib.hid hk
        clear hR hk
        go_wp2_with fail
        go_roundw
        case rel => exact ⟨i + 1, by omega, by go_num, Lib.hid (by have := HST.out; rw [if_neg (by simp)] at this; exact this.symm), Lib.hid (HRN.out rfl), Lib.hid HE1.out.drop⟩
        case measure => simp [intOf]; omega
      · have hE1 : E = 1 := by rw [HE.out]; exact rh_evErr_bad (x := (x1, 1, x3)) (by rw [hR]; simp [h3])
        subst hE1
        have t1 : (x3 != 0) = true := by simpa using h3
        have HR := Lib.hid hR; have HK := Lib.hid hk; have H3 := Lib.hid h3
        clear hR hk h3
        go_wp2
        go_ret2
        exact ⟨by rw [HST.out]; rfl, HE1.out.drop⟩
    · have hR := rh_rightB_word (x := (x1, 2, x3)) hk (.inl rfl)
      simp only at hR
      by_cases hw : 1 ≤ x3 ∧ x3 ≤ 30
      rotate_left
      · have hE1 : E = 1 := by rw [HE.out]; exact rh_evErr_bad (x := (x1, 2, x3)) (by rw [hR]; simp [isWord]; omega)
        subst hE1
        have hcs2 : x3 < 1 ∨ (¬ x3 < 1 ∧ 30 < x3) := by omega
        have HR := Lib.hid hR; have HK := Lib.hid hk
        clear hR hk
        clear hw
        rcases hcs2 with h1 | ⟨h1, h2⟩
        all_goals
          go_wp2
          go_ret2
          exact ⟨by rw [HST.out]; rfl, HE1.out.drop⟩
      have w1' : ¬ x3 < 1 := by omega
      have w2' : ¬ 30 < x3 := by omega
      have hE2 := rh_evErr_say (l := hs.take i) (x := (x1, 2, x3)) (by rw [hR]; simp [isWord]; omega) rfl
      have hbp := byOf_pos' (h := hs) (i := i) (by omega) HRT.out x3
      simp only at hE2
      rw [← HE.out] at hE2
      have HPG : Hid (Own w0 (EvO eb (x1, 2, x3) * R) w1) := HE1
      have HR := Lib.hid hR; have HK := Lib.hid hk; have HW := Lib.hid hw; have HE2 := Lib.hid hE2; have HBP := Lib.hid hbp
      clear hR hk hw hE2 hbp
      go_upto_block 2 with fail
      go_cut [6] (fun bv wx => bv = .int .i64 (byOf (hs.take i) x3) ∧ Own w0 (EvO eb (x1, 2, x3) * R) wx)
      case first =>
        refine rhIn w0 R eb n i cap _ hs (x1, 2, x3) hlt hn60 hlc hcap' HLN (Lib.hid (fun h3 => absurd h3 (by simp))) HRT HV HPG ?_
        intros
        go_step
        go_step
        go_meet
        assumption
      case rest =>
      obtain ⟨rfl, ho⟩ := hcut
      have HO2 := Lib.hid ho
      clear ho HPG HE1 e0 e1 e2
      obtain ⟨e0, e1, e2⟩ := HO2.out.ev
      simp only at e0 e1 e2
      obtain ⟨B, hB⟩ : ∃ B, B = byOf (hs.take i) x3 := ⟨_, rfl⟩
      rw [← hB]
      have HBP' : Hid (0 ≤ B ↔ 0 ≤ saidAt (hs.take i) x3) := Lib.hid (by rw [hB]; exact HBP.out)
      clear hB HBP
      by_cases h0 : 0 ≤ B
      · have hE1 : E = 7 := by rw [HE2.out, if_pos (HBP'.out.1 h0)]
        subst hE1
        go_wp2
        go_ret2
        exact ⟨by rw [HST.out]; rfl, HO2.out.drop⟩
      · have hE1 : E = 0 := by rw [HE2.out, if_neg (fun hh => h0 (HBP'.out.2 hh))]
        subst hE1
        go_wp2_with fail
        go_roundw
        case rel => exact ⟨i + 1, by omega, by go_num, Lib.hid (by have := HST.out; rw [if_neg (by simp)] at this; exact this.symm), Lib.hid (HRN.out rfl), Lib.hid HO2.out.drop⟩
        case measure => simp [intOf]; omega
    · have hR := rh_rightB_word (x := (x1, 3, x3)) hk (.inr rfl)
      simp only at hR
      by_cases hw : 1 ≤ x3 ∧ x3 ≤ 30
      rotate_left
      · have hE1 : E = 1 := by rw [HE.out]; exact rh_evErr_bad (x := (x1, 3, x3)) (by rw [hR]; simp [isWord]; omega)
        subst hE1
        have hcs2 : x3 < 1 ∨ (¬ x3 < 1 ∧ 30 < x3) := by omega
        have HR := Lib.hid hR; have HK := Lib.hid hk
        clear hR hk
        clear hw
        rcases hcs2 with h1 | ⟨h1, h2⟩
        all_goals
          go_wp2
          go_ret2
          exact ⟨by rw [HST.out]; rfl, HE1.out.drop⟩
      have w1' : ¬ x3 < 1 := by omega
      have w2' : ¬ 30 < x3 := by omega
      have hRR : rightB (x1, 3, x3) = true := by rw [hR]; simp [isWord]; omega
      by_cases hm : ((x1, 3, x3) : Ev) ∈ hs.take i
      · have hE1 : E = 7 := by rw [HE.out]; exact rh_evErr_again (x := (x1, 3, x3)) hRR rfl hm
        subst hE1
        obtain ⟨p, hp1, hp2, hp3, hp4⟩ := first_mem hm
        have HR := Lib.hid hR; have HK := Lib.hid hk; have HW := Lib.hid hw; have HRR := Lib.hid hRR; have HM := Lib.hid hm; have HP3 := Lib.hid hp3; have HP4 := Lib.hid hp4
        clear hR hk hw hRR hm hp3 hp4
        go_wp2_with fail
        go_loopw [7, 6] (fun kv bv wr => ∃ (k : Nat) (b : Int), k ≤ p ∧ kv = .int .i64 k ∧ bv = .int .i64 b ∧ Hid (Own w0 (EvO eb (x1, 3, x3) * R) wr)) (fun kv _ _ => p - (intOf kv).toNat)
        case atStart => exact ⟨0, -1, Nat.zero_le _, rfl, rfl, HE1⟩
        case round =>
          clear HE1 e0 e1 e2 HO
          obtain ⟨k, b, hkp, rfl, rfl, HO⟩ := hrel
          have hkl : k < hs.length := by omega
          have hki : k < i := by omega
          obtain ⟨aa', pb', po', ps', ea, hea, hcs, _⟩ := HV.out.more.at HO.out k hkl
          injection ea with ea
          subst ea
          obtain ⟨y, hy⟩ : ∃ y, y = evAt hs k := ⟨_, rfl⟩
          rw [← hy] at hcs
          have hyx : k < p → y ≠ (x1, 3, x3) := fun hkp => by rw [hy]; exact HP4.out k hkp
          have hyp : k = p → y = (x1, 3, x3) := fun hkp => by rw [hy, hkp]; exact HP3.out
          obtain ⟨c0, c1, c2⟩ := hcs _ HO.out
          obtain ⟨e0, e1, e2⟩ := HO.out.ev
          obtain ⟨y1, y2, y3⟩ := y
          simp only at c0 c1 c2 e0 e1 e2
          have i0 : (0 : Int) ≤ (k : Int) := by omega
          have i1 : (k : Int) < (n : Int) := by omega
          have i2 : (k : Int) < (i : Int) := by omega
          obtain ⟨S, hS⟩ : ∃ S, S = saysB x3 (y1, y2, y3) := ⟨_, rfl⟩
          have hS2 : S = (decide (y2 = 2) && decide (y3 = x3)) := hS
          clear hS
          have HCS := Lib.hid hcs; have HY := Lib.hid hy; have HS2 := Lib.hid hS2; have HYX := Lib.hid hyx; have HYP := Lib.hid hyp
          clear hcs hy hS2 hyx hyp
          go_wp2_with fail
          go_upto_region 16 with fail
          go_cut [87] from 72 to 87 (fun c wx => c = .bool S ∧ Own w0 (EvO eb (x1, 3, x3) * R) wx)
          case first =>
            by_cases a1 : y2 = 2
            rotate_left
            · have t1 : (y2 == 2) = false := by rw [beq_eq_false_iff_ne]; exact a1
              have hs1 : S = false := by rw [HS2.out]; simp [a1]
              have A1 := Lib.hid a1; have HS1 := Lib.hid hs1
              clear a1 hs1
              go_wp2_with fail
              go_quiet (fail)
              go_wp2_with fail
              go_meet
              exact ⟨by rw [HS1.out], HO.out.drewN _⟩
            subst a1
            by_cases a2 : y3 = x3
            · have hs1 : S = true := by rw [HS2.out]; simp [a2]
              subst a2
              have HS1 := Lib.hid hs1
              clear hs1
              go_wp2_with fail
              go_quiet (fail)
              go_wp2_with fail
              go_meet
              exact ⟨by rw [HS1.out], HO.out.drewN _⟩
            · have t2 : (y3 == x3) = false := by rw [beq_eq_false_iff_ne]; exact a2
              have hs1 : S = false := by rw [HS2.out]; simp [a2]
              have A2 := Lib.hid a2; have HS1 := Lib.hid hs1
              clear a2 hs1
              go_wp2_with fail
              go_quiet (fail)
              go_wp2_with fail
              go_meet
              exact ⟨by rw [HS1.out], HO.out.drewN _⟩
          case rest =>
          obtain ⟨rfl, ho⟩ := hcut
          clear HO e0 e1 e2 c0 c1 c2
          have HO2 := Lib.hid ho
          clear ho
          obtain ⟨c0, c1, c2⟩ := HCS.out _ HO2.out
          obtain ⟨e0, e1, e2⟩ := HO2.out.ev
          simp only at c0 c1 c2 e0 e1 e2
          go_upto_if 87 with fail
          go_cut [6] from 88 to 92 (fun bv wx => (∃ b : Int, bv = .int .i64 b) ∧ wx = wc)
          case first =>
            cases S
            · go_wp2_with fail
              go_meet
              exact ⟨⟨_, rfl⟩, rfl⟩
            · go_wp2_with fail
              go_meet
              exact ⟨⟨_, rfl⟩, rfl⟩
          case rest =>
          obtain ⟨⟨bq, rfl⟩, rfl⟩ := hcut
          go_upto_region 18 with fail
          by_cases hkp2 : k = p
          · have h1 := HYP.out hkp2
            have h2 : y1 = x1 ∧ y2 = 3 ∧ y3 = x3 := by simpa using h1
            obtain ⟨h2, h3, h4⟩ := h2
            rw [h2] at c0
            rw [h3] at c1
            rw [h4] at c2
            have H1 := Lib.hid h1; have H2 := Lib.hid h2; have H3 := Lib.hid h3; have H4 := Lib.hid h4; have HKP2 := Lib.hid hkp2
            clear h1 h2 h3 h4 hkp2
            go_wp2_with fail
            go_quiet (fail)
            have HO3 := Lib.hid (HO2.out.drewN nq)
            go_wp2_with fail
            go_ret2
            exact ⟨by rw [HST.out]; rfl, HO3.out.drop⟩
          have hlt2 : k < p := by omega
          go_cut [103] from 93 to 103 (fun c wx => c = .bool false ∧ Own w0 (EvO eb (x1, 3, x3) * R) wx)
          case first =>
            have hne := HYX.out hlt2
            by_cases b1 : y1 = x1
            rotate_left
            · have t1 : (y1 == x1) = false := by rw [beq_eq_false_iff_ne]; exact b1
              have B1 := Lib.hid b1; have HNE := Lib.hid hne
              clear b1 hne
              go_wp2_with fail
              go_quiet (fail)
              go_wp2_with fail
              go_meet
              exact ⟨rfl, HO2.out.drewN _⟩
            by_cases b2 : y2 = 3
            rotate_left
            · have t1 : (y2 == 3) = false := by rw [beq_eq_false_iff_ne]; exact b2
              rw [b1] at c0
              have B1 := Lib.hid b1
              clear b1
              have B2 := Lib.hid b2; have HNE := Lib.hid hne
              clear b2 hne
              go_wp2_with fail
              go_quiet (fail)
              go_wp2_with fail
              go_meet
              exact ⟨rfl, HO2.out.drewN _⟩
            have b3 : ¬ y3 = x3 := fun b3 => hne (by rw [b1, b2, b3])
            have t1 : (y3 == x3) = false := by rw [beq_eq_false_iff_ne]; exact b3
            rw [b1] at c0
            rw [b2] at c1
            have B1 := Lib.hid b1; have B2 := Lib.hid b2; have B3 := Lib.hid b3; have HNE := Lib.hid hne
            clear b1 b2 b3 hne
            go_wp2_with fail
            go_quiet (fail)
            go_wp2_with fail
            go_meet
            exact ⟨rfl, HO2.out.drewN _⟩
          case rest =>
          obtain ⟨rfl, ho⟩ := hcut
          have HO3 := Lib.hid ho
          clear ho HO2 e0 e1 e2 c0 c1 c2
          go_wp2_with fail
          go_roundw
          case rel => exact ⟨k + 1, bq, by omega, by go_num, rfl, HO3⟩
          case measure => simp [intOf]; omega
      have hE2 := rh_evErr_hear (l := hs.take i) (x := (x1, 3, x3)) hRR rfl hm
      have hbp := byOf_pos' (h := hs) (i := i) (by omega) HRT.out x3
      simp only at hE2
      rw [← HE.out] at hE2
      have HPG : Hid (Own w0 (EvO eb (x1, 3, x3) * R) w1) := HE1
      have HR := Lib.hid hR; have HK := Lib.hid hk; have HW := Lib.hid hw; have HE2 := Lib.hid hE2; have HBP := Lib.hid hbp; have HRR := Lib.hid hRR; have HM := Lib.hid hm
      clear hR hk hw hE2 hbp hRR hm
      go_upto_block 2 with fail
      go_cut [6] (fun bv wx => bv = .int .i64 (byOf (hs.take i) x3) ∧ Own w0 (EvO eb (x1, 3, x3) * R) wx)
      case first =>
        refine rhIn w0 R eb n i cap _ hs (x1, 3, x3) hlt hn60 hlc hcap' HLN (Lib.hid (fun _ => HM.out)) HRT HV HPG ?_
        intros
        go_step
        go_step
        go_meet
        assumption
      case rest =>
      obtain ⟨rfl, ho⟩ := hcut
      have HO2 := Lib.hid ho
      clear ho HPG HE1 e0 e1 e2
      obtain ⟨e0, e1, e2⟩ := HO2.out.ev
      simp only at e0 e1 e2
      obtain ⟨B, hB⟩ : ∃ B, B = byOf (hs.take i) x3 := ⟨_, rfl⟩
      have hE3 := HE2.out
      rw [← hB] at hE3 ⊢
      have HBP' : Hid (0 ≤ B ↔ 0 ≤ saidAt (hs.take i) x3) := Lib.hid (by rw [hB]; exact HBP.out)
      clear hB HBP
      have HE3 := Lib.hid hE3
      clear hE3
      by_cases h0 : B < 0
      · have hE1 : E = 5 := by rw [HE3.out, if_pos (by have := HBP'.out; omega)]
        subst hE1
        go_wp2
        go_ret2
        exact ⟨by rw [HST.out]; rfl, HO2.out.drop⟩
      by_cases h1 : B = x1
      · have hE1 : E = 3 := by rw [HE3.out, if_neg (by have := HBP'.out; omega), if_pos h1]
        subst hE1
        subst h1
        go_wp2
        go_ret2
        exact ⟨by rw [HST.out]; rfl, HO2.out.drop⟩
      · have hE1 : E = 0 := by rw [HE3.out, if_neg (by have := HBP'.out; omega), if_neg h1]
        subst hE1
        have t1 : (B == x1) = false := by rw [beq_eq_false_iff_ne]; exact h1
        go_wp2_with fail
        go_roundw
        case rel => exact ⟨i + 1, by omega, by go_num, Lib.hid (by have := HST.out; rw [if_neg (by simp)] at this; exact this.symm), Lib.hid (HRN.out rfl), Lib.hid HO2.out.drop⟩
        case measure => simp [intOf]; omega
set_option maxRecDepth 100000 in
set_option maxHeartbeats 4000000 in
theorem refRight_any {w0 w : World} {R : HProp} (v : Value) (hs : List Ev) (h : Own w0 R w) (hv : ReadsE w0 R v hs) :
    Calls Tryd.prog 17 #[v] w fun e w' => e = .returned (.int .i64 (histR hs).2) ∧ Own w0 R w' := by
  obtain ⟨A, hA⟩ : ∃ A, A = (histR hs).1 := ⟨_, rfl⟩
  obtain ⟨B, hB⟩ : ∃ B, B = (histR hs).2 := ⟨_, rfl⟩
  have hc := refHistory_any v hs h hv
  rw [← hA, ← hB] at hc
  rw [← hB]
  have H := Lib.hid h; have HV := Lib.hid hv; have HA := Lib.hid hA; have HB := Lib.hid hB; have HC := Lib.hid hc
  clear h hv hA hB hc
  go_enter Tryd.func17, Tryd.ntmps17
  go_wp2_with fail
  refine HC.out.mono ?_
  rintro e w2 ⟨rfl, ho⟩
  have HO2 := Lib.hid ho
  clear ho
  go_wp2
  go_ret
  exact ⟨rfl, HO2.out⟩
end Go.Proofs.YtljlnhbndkdlcaaDoor
