/- Contracts of package cause, continued: check, of a member for whom words may wait. -/
import Derived.Test.YtdfjbnfdknpahaaGreatDoorMRunCausal18
import Derived.Test.YtdfjbnfdknpahaaGreatDoorMRunCausal9
import Derived.Test.YtdfjbnfdknpahaaGreatDoorMRunCausal1
import Derived.Lib.SliceRun
import Derived.Deep.RegionLaw
import Derived.Deep.DeepCutAuto
import Derived.Deep.CutBlock
namespace Go.Proofs.YtdfjbnfdknpahaaGreatDoor
set_option linter.unusedVariables false
set_option linter.unusedSimpArgs false
open Go.RowKit
set_option maxRecDepth 100000 in
set_option maxHeartbeats 4000000 in
theorem check1Sd_any {w0 w : World} {R : HProp} (b1 b2 : Nat) (s : Sd) (r : SdR) (hr : sdErr r.2 = 0) (h : Own w0 R w) (hc : ∀ w', Own w0 R w' → w'.cell? ⟨b1, 0, none⟩ = some (.int .i64 s.who) ∧ w'.cell? ⟨b2, 0, none⟩ = some (.int .i64 (caAt s.clk s.who)) ∧ Ints w' r.1 r.2.clk) :
    Calls Tryz.prog 120 #[sdV r, .pointer (some ⟨b1, 0, none⟩), .pointer (some ⟨b2, 0, none⟩)] w fun e w' => e = .returned (.bool (caSame s r.2)) ∧ Own w0 R w' := by
  obtain ⟨v, x⟩ := r
  unfold sdV
  dsimp only at hr hc ⊢
  obtain ⟨m1, m2, m3⟩ := sdErr0 hr
  have m4 : 0 ≤ x.who ∧ x.who < 5 := by simpa [isMember] using m1
  have m5 := (vecErr0 m3).1
  obtain ⟨q, hq⟩ : ∃ q : Nat, x.who = (q : Int) := ⟨x.who.toNat, by omega⟩
  have hql : q < x.clk.length := by omega
  have q0 : (0 : Int) ≤ (q : Int) := by omega
  have q5 : (q : Int) < 5 := by omega
  obtain ⟨n, hn⟩ : ∃ n, n = caAt s.clk s.who := ⟨_, rfl⟩
  obtain ⟨a, ha⟩ : ∃ a, a = s.who := ⟨_, rfl⟩
  obtain ⟨z, hz⟩ : ∃ z, z = x.clk[q] := ⟨_, rfl⟩
  have hat : caAt x.clk x.who = z := by unfold caAt; rw [hq, Int.toNat_natCast, hz, List.getD_eq_getElem?_getD, List.getElem?_eq_getElem hql]; rfl
  have hres : caSame s x = (decide ((q : Int) = a) && decide (z = n)) := by unfold caSame; rw [hat, hq, hn, ha]
  rw [← hn, ← ha] at hc
  obtain ⟨_, _, hi0⟩ := hc _ h
  obtain ⟨ad, cap, rfl, hc1, hc2⟩ := hi0.shape
  rw [m5] at hc1 hc
  rw [hq, hres, m5]
  obtain ⟨b3, hb_b3⟩ : ∃ zz_, zz_ = (w).heap.size := ⟨_, rfl⟩
  obtain ⟨w1, hw_w1⟩ : ∃ zz_, zz_ = (w).alloc (.cells #[.int .i64 q, .int .i64 x.word, .slice ad 5 cap] 59 (0, 0)) := ⟨_, rfl⟩
  have h_HO := (h).alloc (.cells #[.int .i64 q, .int .i64 x.word, .slice ad 5 cap] 59 (0, 0))
  rw [← hb_b3, ← hw_w1] at h_HO
  have HO := Lib.hid h_HO
  clear h_HO
  obtain ⟨c1, c2, hi⟩ := hc _ HO.out.drop
  obtain ⟨x0, x1, x2, _⟩ := (show Own w0 (SdO b3 q x.word (.slice ad 5 cap) * R) w1 from HO.out).sd
  obtain ⟨aa, rfl, hca⟩ := hi.at q hql
  rw [← hz] at hca
  clear hi0 hi
  have HO2 : Hid (Own w0 R w1) := Lib.hid HO.out.drop
  clear HO
  have H := Lib.hid h; have HC := Lib.hid hc; have HR := Lib.hid hr; have M1 := Lib.hid m1; have M2 := Lib.hid m2; have M3 := Lib.hid m3; have M4 := Lib.hid m4; have HQ := Lib.hid hq; have HN := Lib.hid hn; have HA := Lib.hid ha; have HZ := Lib.hid hz; have HAT := Lib.hid hat; have HRES := Lib.hid hres
  clear h hc hr m1 m2 m3 m4 hq hn ha hz hat hres
  by_cases h1 : (q : Int) = a
  · have t1 : ((q : Int) == a) = true := by rw [beq_iff_eq]; exact h1
    have hd1 : decide ((q : Int) = a) = true := decide_eq_true h1
    rw [hd1, Bool.true_and]
    have t2 : (z == n) = decide (z = n) := by rw [Bool.eq_iff_iff]; simp
    obtain ⟨D, hD⟩ : ∃ D, D = decide (z = n) := ⟨_, rfl⟩
    rw [← hD] at t2 ⊢
    have H1 := Lib.hid h1; have HD1 := Lib.hid hd1; have HD := Lib.hid hD
    clear h1 hd1 hD
    go_enter Tryz.func120, Tryz.ntmps120
    go_upto_region 1 with fail
    rw [← hb_b3, ← hw_w1]
    clear hb_b3 hw_w1
    go_wp2_with fail
    go_quiet (fail)
    go_wp2
    go_ret
    refine ⟨?_, HO2.out.drewN _⟩
    rfl
  · have t1 : ((q : Int) == a) = false := by rw [beq_eq_false_iff_ne]; exact h1
    have hd1 : decide ((q : Int) = a) = false := decide_eq_false h1
    rw [hd1, Bool.false_and]
    have H1 := Lib.hid h1; have HD1 := Lib.hid hd1
    clear h1 hd1
    go_enter Tryz.func120, Tryz.ntmps120
    go_upto_region 1 with fail
    rw [← hb_b3, ← hw_w1]
    clear hb_b3 hw_w1
    go_wp2_with fail
    go_quiet (fail)
    go_wp2
    go_ret
    exact ⟨rfl, HO2.out.drewN _⟩
theorem Own.cw_any {w0 w : World} {p mb : Nat} {wv : Value} {rows : List SdR} {c : Ca} {R : HProp} (h : Own w0 (CwO p mb wv rows c * R) w) : (wv = .slice none 0 0 ∧ rows = []) ∨
    ∃ b off cap, wv = .slice (some ⟨b, off, none⟩) rows.length cap ∧ rows.length ≤ cap ∧ cap ≤ 9223372036854775807 ∧ SdAt w0 (CwO p mb wv rows c * R) b off rows := by
  by_cases hl : 0 < rows.length
  · exact .inr (h.cw_at hl)
  have hr : rows = [] := List.length_eq_zero_iff.1 (by omega)
  rcases Own.sl_cases h.cw_sl with ⟨h1, _⟩ | ⟨b, off, cap, cs, h1, h2, h3, _⟩
  · exact .inl ⟨h1, hr⟩
  · exact .inr ⟨b, off, cap, h1, h2, by simpa [maxLen] using h3, fun w' _ k hk => by omega⟩
set_option maxRecDepth 100000 in
set_option maxHeartbeats 4000000 in
theorem cwHas_any {w0 w : World} {R : HProp} {pp mb : Nat} {wv : Value} {rows : List SdR} {c : Ca} (fid : FuncId) (c1 c2 : Value) (p : SdR → Bool) (h : Own w0 (CwO pp mb wv rows c * R) w) (hcf : ∀ a w, Sem.run Tryz.prog (callFunc fid a) w = .ok (.enter fid a) w) (hf : ∀ k (_ : k < rows.length) w, Own w0 (CwO pp mb wv rows c * R) w → Calls Tryz.prog fid #[sdV rows[k], c1, c2] w fun e w' => e = .returned (.bool (p rows[k])) ∧ Own w0 (CwO pp mb wv rows c * R) w') :
    Calls Tryz.prog 119 #[wv, .func (.func fid) #[] #[c1, c2]] w fun e w' => e = .returned (.bool (rows.any p)) ∧ Own w0 (CwO pp mb wv rows c * R) w' := by
  rcases h.cw_any with ⟨rfl, rfl⟩ | ⟨b, off, cap, rfl, h1, h2, ha⟩
  · refine (saidHas_none _ w).mono ?_
    rintro e w' ⟨rfl, rfl⟩
    exact ⟨rfl, h⟩
  · exact sdHas_any fid c1 c2 p b off cap rows h h1 h2 ha hcf hf
set_option maxRecDepth 100000 in
set_option maxHeartbeats 4000000 in
theorem cwIx_any {w0 w : World} {R : HProp} {pp mb : Nat} {wv : Value} {rows : List SdR} {c : Ca} (fid : FuncId) (c1 : Value) (p : SdR → Bool) (h : Own w0 (CwO pp mb wv rows c * R) w) (hcf : ∀ a w, Sem.run Tryz.prog (callFunc fid a) w = .ok (.enter fid a) w) (hf : ∀ k (_ : k < rows.length) w, Own w0 (CwO pp mb wv rows c * R) w → Calls Tryz.prog fid #[c1, sdV rows[k]] w fun e w' => e = .returned (.bool (p rows[k])) ∧ Own w0 (CwO pp mb wv rows c * R) w') :
    Calls Tryz.prog 103 #[wv, .func (.func fid) #[c1] #[]] w fun e w' => e = .returned (.int .i64 (whereI p rows)) ∧ Own w0 (CwO pp mb wv rows c * R) w' := by
  rcases h.cw_any with ⟨rfl, rfl⟩ | ⟨b, off, cap, rfl, h1, h2, ha⟩
  · refine (saidIx_none _ w).mono ?_
    rintro e w' ⟨rfl, rfl⟩
    exact ⟨rfl, h⟩
  · exact sdIx_any fid c1 p b off cap rows h h1 h2 ha hcf hf
theorem caErr_at {c : Ca} {s : Sd} (h : sdErr s = 0) (h1 : s.who ≠ c.me) (h2 : caAt s.clk s.who ≠ 0) (h3 : caAt c.clk s.who < caAt s.clk s.who) :
    caErr c s = if c.waits.any (caSame s) = true then 7 else if 40 ≤ c.waits.length ∧ caReady c.clk s = false then 4 else 0 := by
  unfold caErr
  rw [if_neg (by rw [h]; simp), if_neg h1, if_neg h2, if_neg (by omega)]
set_option maxRecDepth 100000 in
set_option maxHeartbeats 4000000 in
theorem cwCheck_no {w0 w : World} {R : HProp} (p : Nat) (c : Ca) (s : Sd) (cv : Value) (hs : sdErr s ≠ 0) (hv : Reads w0 R cv s.clk) (h : Own w0 (CwP p c * R) w) :
    Calls Tryz.prog 101 #[.pointer (some ⟨p, 0, none⟩), .agg #[.int .i64 s.who, .int .i64 s.word, cv]] w fun e w' => e = .returned (errV (caErr c s)) ∧ Own w0 (CwP p c * R) w' := by
  have hE : caErr c s = sdErr s := by unfold caErr; rw [if_pos hs]
  rw [hE]
  clear hE
  obtain ⟨vad, vcap, rfl, hvc1, hvc2⟩ := (hv _ h.drop).shape
  obtain ⟨a, word, V⟩ := s
  unfold sdErr at hs ⊢
  dsimp only at hs hv h hvc1 hvc2 ⊢
  obtain ⟨b1, hb_b1⟩ : ∃ zz_, zz_ = (w).heap.size := ⟨_, rfl⟩
  obtain ⟨w1, hw_w1⟩ : ∃ zz_, zz_ = (w).alloc (.cells #[.int .i64 a, .int .i64 word, .slice vad V.length vcap] 59 (0, 0)) := ⟨_, rfl⟩
  have h_HO := (h).alloc (.cells #[.int .i64 a, .int .i64 word, .slice vad V.length vcap] 59 (0, 0))
  rw [← hb_b1, ← hw_w1] at h_HO
  have HO := Lib.hid h_HO
  clear h_HO
  obtain ⟨x0, x1, x2, _⟩ := (show Own w0 (SdO b1 a word (.slice vad V.length vcap) * (CwP p c * R)) w1 from HO.out).sd
  have HVV := Lib.hid (hv _ HO.out.drop.drop)
  have HO2 := Lib.hid HO.out.drop
  clear HO
  cases hm : isMember a
  · have H := Lib.hid h; have HV := Lib.hid hv; have HM := Lib.hid hm; have HS := Lib.hid hs
    clear h hv hm hs
    go_enter Tryz.func101, Tryz.ntmps101
    go_upto_region 1 with fail
    rw [← hb_b1, ← hw_w1]
    clear hb_b1 hw_w1
    go_wp2_with fail
    refine (member_any _ _).mono ?_
    rintro e w' ⟨rfl, rfl⟩
    rw [HM.out]
    go_wp2
    go_ret
    exact ⟨rfl, HO2.out⟩
  cases hw : isWord word
  · have H := Lib.hid h; have HV := Lib.hid hv; have HM := Lib.hid hm; have HW := Lib.hid hw; have HS := Lib.hid hs
    clear h hv hm hw hs
    go_enter Tryz.func101, Tryz.ntmps101
    go_upto_region 1 with fail
    rw [← hb_b1, ← hw_w1]
    clear hb_b1 hw_w1
    go_wp2_with fail
    refine (member_any _ _).mono ?_
    rintro e w' ⟨rfl, rfl⟩
    rw [HM.out]
    go_wp2_with fail
    refine (word_any _ _).mono ?_
    rintro e w' ⟨rfl, rfl⟩
    rw [HW.out]
    go_wp2
    go_ret
    exact ⟨rfl, HO2.out⟩
  rw [hm, hw, if_neg (by simp), if_neg (by simp)] at hs
  rw [if_neg (show ¬ true = false by simp), if_neg (show ¬ true = false by simp)]
  obtain ⟨mm, hmm⟩ := errV_some hs
  rw [hmm]
  have H := Lib.hid h; have HV := Lib.hid hv; have HM := Lib.hid hm; have HW := Lib.hid hw; have HS := Lib.hid hs; have HMM := Lib.hid hmm
  clear h hv hm hw hs hmm
  go_enter Tryz.func101, Tryz.ntmps101
  go_upto_region 1 with fail
  rw [← hb_b1, ← hw_w1]
  clear hb_b1 hw_w1
  go_wp2_with fail
  refine (member_any _ _).mono ?_
  rintro e w' ⟨rfl, rfl⟩
  rw [HM.out]
  go_wp2_with fail
  refine (word_any _ _).mono ?_
  rintro e w' ⟨rfl, rfl⟩
  rw [HW.out]
  go_wp2_with fail
  refine (vcheck_any _ V _ HVV.out).mono ?_
  rintro e w' ⟨rfl, rfl⟩
  rw [HMM.out]
  go_wp2
  go_ret
  exact ⟨rfl, HO2.out⟩
set_option maxRecDepth 100000 in
set_option maxHeartbeats 4000000 in
theorem cwCheck_yes {w0 w : World} {R : HProp} (p : Nat) (c : Ca) (s : Sd) (cv : Value) (hI : CaI c) (hs : sdErr s = 0) (hv : Reads w0 R cv s.clk) (h : Own w0 (CwP p c * R) w) :
    Calls Tryz.prog 101 #[.pointer (some ⟨p, 0, none⟩), .agg #[.int .i64 s.who, .int .i64 s.word, cv]] w fun e w' => e = .returned (errV (caErr c s)) ∧ Own w0 (CwP p c * R) w' := by
  obtain ⟨hm, hw, hV⟩ := sdErr0 hs
  have V5 := (vecErr0 hV).1
  have h5 := (vecErr0 hI.clk).1
  obtain ⟨vad, vcap, rfl, hvc1, hvc2⟩ := (hv _ h.drop).shape
  rw [V5] at hvc1 hv ⊢
  obtain ⟨q, hq⟩ : ∃ q : Nat, s.who = (q : Int) := ⟨s.who.toNat, by simp [isMember] at hm; omega⟩
  have hq5 : q < 5 := by simp [isMember] at hm; omega
  have q0 : (0 : Int) ≤ (q : Int) := by omega
  have q5 : (q : Int) < 5 := by omega
  obtain ⟨E, hE⟩ : ∃ E, E = caErr c s := ⟨_, rfl⟩
  rw [← hE, hq]
  obtain ⟨b1, hb_b1⟩ : ∃ zz_, zz_ = (w).heap.size := ⟨_, rfl⟩
  obtain ⟨w1, hw_w1⟩ : ∃ zz_, zz_ = (w).alloc (.cells #[.int .i64 q, .int .i64 s.word, .slice vad 5 vcap] 59 (0, 0)) := ⟨_, rfl⟩
  have h_HO := (h).alloc (.cells #[.int .i64 q, .int .i64 s.word, .slice vad 5 vcap] 59 (0, 0))
  rw [← hb_b1, ← hw_w1] at h_HO
  have HO := Lib.hid h_HO
  clear h_HO
  obtain ⟨x0, x1, x2, _⟩ := (show Own w0 (SdO b1 q s.word (.slice vad 5 vcap) * (CwP p c * R)) w1 from HO.out).sd
  have HVV := Lib.hid (hv _ HO.out.drop.drop)
  obtain ⟨aa, e1, hca⟩ := HVV.out.at q (by rw [V5]; exact hq5)
  obtain ⟨z, hz⟩ : ∃ z, z = s.clk[q]'(by rw [V5]; exact hq5) := ⟨_, rfl⟩
  rw [← hz] at hca
  have hzg : caAt s.clk s.who = z := by unfold caAt; rw [hq, Int.toNat_natCast, hz, List.getD_eq_getElem?_getD, List.getElem?_eq_getElem (by rw [V5]; exact hq5)]; rfl
  have hzb := vec_get hV q
  rw [show s.clk.getD q 0 = z from by unfold caAt at hzg; rw [hq, Int.toNat_natCast] at hzg; exact hzg] at hzb
  obtain ⟨z0, z1⟩ := hzb
  subst e1
  obtain ⟨b2, hb_b2⟩ : ∃ zz_, zz_ = (w1).heap.size := ⟨_, rfl⟩
  obtain ⟨w2, hw_w2⟩ : ∃ zz_, zz_ = (w1).alloc (.cells #[.int .i64 z] 3 (0, 0)) := ⟨_, rfl⟩
  have h_HO2 := (HO.out).alloc (.cells #[.int .i64 z] 3 (0, 0))
  rw [← hb_b2, ← hw_w2] at h_HO2
  have HO2 := Lib.hid h_HO2
  clear h_HO2
  have HO3 : Hid (Own w0 (CwP p c * (SdO b1 q s.word (.slice (some aa) 5 vcap) * (blk b2 (.cells #[.int .i64 z] 3 (0, 0)) * R))) w2) := Lib.hid (HO2.out.perm (by unfold SdO; ac_rfl))
  have HFIN : Hid (∀ w', Own w0 (CwP p c * (SdO b1 q s.word (.slice (some aa) 5 vcap) * (blk b2 (.cells #[.int .i64 z] 3 (0, 0)) * R))) w' → Own w0 (CwP p c * R) w') := Lib.hid (fun w' ho => ((ho.perm (show _ = SdO b1 q s.word (.slice (some aa) 5 vcap) * (blk b2 (.cells #[.int .i64 z] 3 (0, 0)) * (CwP p c * R)) by ac_rfl)).drop.drop))
  clear HO2 HO
  obtain ⟨mb, wv, rows, he, ho⟩ := HO3.out.cw_open
  obtain ⟨c0, c1, c2, hc, _, _⟩ := ho.cw_facts h5
  obtain ⟨wad, wcap, rfl, hwc1, hwc2⟩ := ho.cw_shape
  have cq := hc q hq5
  obtain ⟨y, hy⟩ : ∃ y, y = c.clk.getD q 0 := ⟨_, rfl⟩
  rw [← hy] at cq
  have hyg : caAt c.clk s.who = y := by unfold caAt; rw [hq, Int.toNat_natCast, hy]
  have n0 : w2.cell? ⟨b2, 0, none⟩ = some (.int .i64 z) := (ho.third.cell 0).trans rfl
  obtain ⟨a0, a1, a2, _⟩ := ho.second.sd
  have hb := fun i (_ : i < 5) => vec_get hI.clk i
  obtain ⟨N, hN⟩ : ∃ N, N = rows.length := ⟨_, rfl⟩
  rw [← hN] at c2 hwc1
  have hwl : c.waits.length = N := by rw [hN, ← he, List.length_map]
  have hN40 : N ≤ 40 := by rw [← hwl]; exact hI.len
  have hmq : isMember (q : Int) = true := by rw [← hq]; exact hm
  have HE_ := Lib.hid he
  have HEE := Lib.hid hE
  clear he hE hc hm
  have HV_ := Lib.hid hV
  have HB_ := Lib.hid hb
  have V5H := Lib.hid V5
  clear hV hb
  have H := Lib.hid h; have HV := Lib.hid hv; have H5 := Lib.hid h5; have HW := Lib.hid hw; have HZ := Lib.hid hz; have HZG := Lib.hid hzg; have HMQ := Lib.hid hmq; have HI := Lib.hid hI; have HS := Lib.hid hs; have HQ := Lib.hid hq; have HY := Lib.hid hy; have HYG := Lib.hid hyg; have HO := Lib.hid ho; have HWL := Lib.hid hwl; have HN := Lib.hid hN
  clear h hv h5 hw hz hzg hmq hI hs hq hy hyg ho hwl hN
  go_enter Tryz.func101, Tryz.ntmps101
  go_upto_region 1 with fail
  rw [← hb_b1, ← hw_w1]
  clear hb_b1 hw_w1
  go_wp2_with fail
  refine (member_any _ _).mono ?_
  rintro e w' ⟨rfl, rfl⟩
  rw [HMQ.out]
  go_wp2_with fail
  refine (word_any _ _).mono ?_
  rintro e w' ⟨rfl, rfl⟩
  rw [HW.out]
  go_wp2_with fail
  refine (vcheck_any _ s.clk _ HVV.out).mono ?_
  rintro e w' ⟨rfl, rfl⟩
  rw [HV_.out, errV0]
  go_upto_region 7 with fail
  rw [← hb_b2, ← hw_w2]
  clear hb_b2 hw_w2
  clear x0 x1 x2 hca
  by_cases hme : (q : Int) = c.me
  · have t1 : ((q : Int) == c.me) = true := by rw [beq_iff_eq]; exact hme
    have hE3 : E = 3 := by rw [HEE.out]; unfold caErr; rw [if_neg (by rw [HS.out]; simp), if_pos (by rw [HQ.out]; exact hme)]
    have HME := Lib.hid hme
    clear hme
    refine wp_region_tail 7 (by kernel_rfl) (by kernel_rfl) ?_
    simp only [List.take_succ_cons, List.take_zero, List.drop_succ_cons, List.drop_zero]
    repeat still_step
    refine wpStill_nil ?_
    go_wp2
    go_ret
    exact ⟨by rw [hE3]; rfl, HFIN.out _ HO3.out.drew⟩
  have t1 : ((q : Int) == c.me) = false := by rw [beq_eq_false_iff_ne]; exact hme
  by_cases hn0 : z = 0
  · have t2 : (z == 0) = true := by rw [beq_iff_eq]; exact hn0
    have hE3 : E = 1 := by rw [HEE.out]; unfold caErr; rw [if_neg (by rw [HS.out]; simp), if_neg (by rw [HQ.out]; exact hme), if_pos (by rw [HZG.out]; exact hn0)]
    have HME := Lib.hid hme; have HN0 := Lib.hid hn0
    clear hme hn0
    refine wp_region_tail 7 (by kernel_rfl) (by kernel_rfl) ?_
    simp only [List.take_succ_cons, List.take_zero, List.drop_succ_cons, List.drop_zero]
    repeat still_step
    refine wpStill_nil ?_
    go_wp2
    go_ret
    exact ⟨by rw [hE3]; rfl, HFIN.out _ HO3.out.drew⟩
  have t2 : (z == 0) = false := by rw [beq_eq_false_iff_ne]; exact hn0
  have H1 : Hid (s.who ≠ c.me) := Lib.hid (by rw [HQ.out]; exact hme)
  have H2 : Hid (caAt s.clk s.who ≠ 0) := Lib.hid (by rw [HZG.out]; exact hn0)
  by_cases hzy : z ≤ y
  · have t3 : decide (z ≤ y) = true := decide_eq_true hzy
    have hE3 : E = 7 := by rw [HEE.out]; unfold caErr; rw [if_neg (by rw [HS.out]; simp), if_neg H1.out, if_neg H2.out, if_pos (by rw [HZG.out, HYG.out]; exact hzy)]
    have HME := Lib.hid hme; have HN0 := Lib.hid hn0; have HZY := Lib.hid hzy
    clear hme hn0 hzy
    refine wp_region_tail 7 (by kernel_rfl) (by kernel_rfl) ?_
    simp only [List.take_succ_cons, List.take_zero, List.drop_succ_cons, List.drop_zero]
    repeat still_step
    refine wpStill_nil ?_
    go_upto_region 11 with fail
    refine wp_region_tail 10 (by kernel_rfl) (by kernel_rfl) ?_
    simp only [List.take_succ_cons, List.take_zero, List.drop_succ_cons, List.drop_zero]
    repeat still_step
    refine wpStill_nil ?_
    go_wp2
    go_ret
    exact ⟨by rw [hE3]; rfl, HFIN.out _ HO3.out.drew.drew⟩
  have t3 : decide (z ≤ y) = false := decide_eq_false hzy
  have hE4 := caErr_at HS.out H1.out H2.out (by rw [HZG.out, HYG.out]; omega)
  rw [← HEE.out, HWL.out] at hE4
  have HE4 := Lib.hid hE4
  clear hE4
  have HME := Lib.hid hme; have HN0 := Lib.hid hn0; have HZY := Lib.hid hzy
  clear hme hn0 hzy
  refine wp_region_tail 7 (by kernel_rfl) (by kernel_rfl) ?_
  simp only [List.take_succ_cons, List.take_zero, List.drop_succ_cons, List.drop_zero]
  repeat still_step
  refine wpStill_nil ?_
  go_upto_region 11 with fail
  refine wp_region_tail 10 (by kernel_rfl) (by kernel_rfl) ?_
  simp only [List.take_succ_cons, List.take_zero, List.drop_succ_cons, List.drop_zero]
  repeat still_step
  refine wpStill_nil ?_
  have HO5 := Lib.hid HO.out.drew.drew
  -- the words that wait
  have key : Calls Tryz.prog 119 #[.slice wad N wcap, .func (.func 120) #[] #[.pointer (some ⟨b1, 0, none⟩), .pointer (some ⟨b2, 0, none⟩)]] w2.drew.drew fun e w' => e = .returned (.bool (c.waits.any (caSame s))) ∧ Own w0 (CwO p mb (.slice wad rows.length wcap) rows c * (SdO b1 q s.word (.slice (some aa) 5 vcap) * (blk b2 (.cells #[.int .i64 z] 3 (0, 0)) * R))) w' := by
    have h1 := cwHas_any 120 (.pointer (some ⟨b1, 0, none⟩)) (.pointer (some ⟨b2, 0, none⟩)) (fun r => caSame s r.2) HO5.out (fun a w => by kernel_rfl) (fun k hk w ho => by
      have hok : sdErr rows[k].2 = 0 := HI.out.ok _ (by rw [← HE_.out]; exact List.mem_map.2 ⟨_, List.getElem_mem hk, rfl⟩)
      refine check1Sd_any b1 b2 s rows[k] hok ho (fun w' ho' => ⟨?_, ?_, ho'.cw_row hk (sdErr0 hok).2.2⟩)
      · rw [HQ.out]; exact (ho'.second.sd).1
      · rw [HZG.out]; exact (ho'.third.cell 0).trans rfl)
    rw [← HN.out] at h1
    refine h1.mono ?_
    rintro e w' ⟨rfl, ho⟩
    refine ⟨?_, by rw [← HN.out]; exact ho⟩
    rw [← HE_.out, List.any_map]; rfl
  have HKEY := Lib.hid key
  clear key
  go_wp2_with fail
  refine HKEY.out.mono ?_
  rintro e w3 ⟨rfl, ho3⟩
  obtain ⟨B, hB⟩ : ∃ B, B = c.waits.any (caSame s) := ⟨_, rfl⟩
  rw [← hB] at HE4 ⊢
  have HO6 := Lib.hid ho3
  clear HKEY
  obtain ⟨c0, c1, c2, _, _, _⟩ := ho3.cw_facts H5.out
  obtain ⟨a0, a1, a2, _⟩ := ho3.second.sd
  rw [← HN.out] at c2
  clear ho3
  have HB := Lib.hid hB
  clear hB
  cases B
  rotate_left
  · have hE5 : E = 7 := by rw [HE4.out, if_pos rfl]
    go_wp2
    go_ret
    exact ⟨by rw [hE5]; rfl, HFIN.out _ (Own.cw_close HE_.out HO6.out)⟩
  rw [if_neg (by simp)] at HE4
  by_cases h40 : 40 ≤ N
  rotate_left
  · have hE5 : E = 0 := by rw [HE4.out, if_neg (fun h => h40 h.1)]
    have t4 : decide ((40 : Int) ≤ (N : Int)) = false := decide_eq_false (by omega)
    have H40 := Lib.hid h40
    clear h40
    go_wp2
    go_ret
    exact ⟨by rw [hE5]; rfl, HFIN.out _ (Own.cw_close HE_.out HO6.out)⟩
  have t4 : decide ((40 : Int) ≤ (N : Int)) = true := decide_eq_true (by omega)
  have HE5 : Hid (E = if caReady c.clk s = false then 4 else 0) := Lib.hid (by
    rw [HE4.out]
    by_cases hr : caReady c.clk s = false
    · rw [if_pos ⟨h40, hr⟩, if_pos hr]
    · rw [if_neg (fun h => hr h.2), if_neg hr])
  have key : Calls Tryz.prog 102 #[.pointer (some ⟨p, 0, none⟩), .agg #[.int .i64 q, .int .i64 s.word, .slice (some aa) 5 vcap]] w3 fun e w' => e = .returned (.bool (caReady c.clk s)) ∧ Own w0 (CwO p mb (.slice wad rows.length wcap) rows c * (SdO b1 q s.word (.slice (some aa) 5 vcap) * (blk b2 (.cells #[.int .i64 z] 3 (0, 0)) * R))) w' := by
    have h1 := caReady_any p mb c.clk s (.slice (some aa) 5 vcap) V5H.out HB_.out (fun w' ho' => by
      obtain ⟨_, k1, _, k3, _, _⟩ := ho'.cw_facts H5.out
      exact ⟨k1, k3, HV.out _ ho'.drop.drop.drop⟩) HO6.out
    rw [HQ.out] at h1
    exact h1
  have HKEY := Lib.hid key
  clear key
  have H40 := Lib.hid h40
  clear h40
  go_wp2_with fail
  refine HKEY.out.mono ?_
  rintro e w4 ⟨rfl, ho4⟩
  obtain ⟨B, hB⟩ : ∃ B, B = caReady c.clk s := ⟨_, rfl⟩
  rw [← hB] at HE5 ⊢
  have HO7 := Lib.hid ho4
  clear ho4 HKEY hB
  cases B
  · have hE5 : E = 4 := by rw [HE5.out, if_pos rfl]
    go_wp2
    go_ret
    exact ⟨by rw [hE5]; rfl, HFIN.out _ (Own.cw_close HE_.out HO7.out)⟩
  · have hE5 : E = 0 := by rw [HE5.out, if_neg (by simp)]
    go_wp2
    go_ret
    exact ⟨by rw [hE5]; rfl, HFIN.out _ (Own.cw_close HE_.out HO7.out)⟩
set_option maxRecDepth 100000 in
set_option maxHeartbeats 4000000 in
theorem cwCheck_any {w0 w : World} {R : HProp} (p : Nat) (c : Ca) (s : Sd) (cv : Value) (hI : CaI c) (hv : Reads w0 R cv s.clk) (h : Own w0 (CwP p c * R) w) :
    Calls Tryz.prog 101 #[.pointer (some ⟨p, 0, none⟩), .agg #[.int .i64 s.who, .int .i64 s.word, cv]] w fun e w' => e = .returned (errV (caErr c s)) ∧ Own w0 (CwP p c * R) w' := by
  by_cases hs : sdErr s = 0
  · exact cwCheck_yes p c s cv hI hs hv h
  · exact cwCheck_no p c s cv hs hv h
end Go.Proofs.YtdfjbnfdknpahaaGreatDoor
/- slices.Delete of one element of three cells, at a slice that the call owns. -/
namespace Go.Proofs.YtdfjbnfdknpahaaGreatDoor
set_option linter.unusedVariables false
set_option linter.unusedSimpArgs false
open Go.RowKit
theorem zeroCells_one (z : Array Value) : (Builtin.zeroCells z 1).toList = z.toList := by
  simp only [Builtin.zeroCells, Nat.one_mul]
  apply List.ext_getElem
  · simp
  · intro i h1 h2
    have hi : i < z.size := by simpa using h2
    simp [Nat.mod_eq_of_lt hi, hi]
theorem run_clear_one {P : Program} (w : World) (t e ty : TypeId) (z : Value) (ht : P.underlying t = some (.slice e)) (hv : ∀ w, (zeroValue e).run P w = .ok z w) (h1 : ∀ u ∈ z.cells.toList, u.oneCell' = true) (b o c : Nat)
    (hc : ∀ j, j < z.cells.toList.length → (w.cell? ⟨b, o + j, none⟩).isSome = true) (hf : ∀ j, j < z.cells.toList.length → w.frozen? ⟨b, o + j, none⟩ = false) :
    (Builtin.clear_ #[t] ty #[.slice (some ⟨b, o, none⟩) 1 c]).run P w = .ok (.tuple #[]) (w.setCells b o z.cells.toList) := by
  have hst := run_storeCells_cells (P := P) b o z.cells.toList 0 w (by simpa using hc) (by simpa using hf) h1
  simp only [Nat.add_zero] at hst
  simp [Builtin.clear_, run_underlying ht, hv, zeroCells_one, hst]
theorem del_cells {n i off : Nat} {cs : Array Value} {xs z3 : List Value} (hi : i < n) (hx : xs.length = n * 3) (hz : z3.length = 3) (hcs : off + n * 3 ≤ cs.size) (h6 : ∀ j, j < xs.length → cs[off + j]? = xs[j]?) :
    ∀ j, j < (xs.take (i * 3) ++ xs.drop ((i + 1) * 3)).length → (setL (setL cs (off + i * 3) (xs.drop ((i + 1) * 3))) (off + (n - 1) * 3) z3)[off + j]? = (xs.take (i * 3) ++ xs.drop ((i + 1) * 3))[j]? := by
  intro j hj
  have h0 : (xs.take (i * 3)).length = i * 3 := by rw [List.length_take]; omega
  have hd : (xs.drop ((i + 1) * 3)).length = n * 3 - (i + 1) * 3 := by rw [List.length_drop]; omega
  rw [List.length_append, h0, hd] at hj
  rw [setL_out _ _ _ _ (by omega)]
  by_cases hji : j < i * 3
  · rw [setL_out _ _ _ _ (by omega), List.getElem?_append_left (by omega), List.getElem?_take, if_pos hji, h6 j (by omega)]
  · rw [List.getElem?_append_right (by omega), h0]
    have := setL_in (xs.drop ((i + 1) * 3)) cs (off + i * 3) (j - i * 3) (by omega) (by omega)
    rw [show off + i * 3 + (j - i * 3) = off + j by omega] at this
    exact this
theorem cut3_back {P : Program} {t e : TypeId} (ht : P.underlying t = some (.slice e)) (hs : ∀ w, (sizeOf e).run P w = .ok 3 w) {b off len cp n : Nat} (h1 : n ≤ len) (h2 : len ≤ cp) (w : World) :
    (Instr.sliceAt t (.slice (some ⟨b, off, none⟩) len cp) none (some (.int .i64 n)) none).run P w = .ok (.slice (some ⟨b, off, none⟩) n cp) w := by
  have h3 : n ≤ cp := by omega
  simp [Instr.sliceAt, Instr.slice, Instr.sliceBounds, Instr.sliceBound, asIntOf, run_underlying ht, hs, h3, Result.andThen]
  intro _
  simp [Addr.add]
theorem cut3_front' {P : Program} {t e : TypeId} (ht : P.underlying t = some (.slice e)) (hs : ∀ w, (sizeOf e).run P w = .ok 3 w) {b off len cp m : Nat} (h1 : m ≤ len) (w : World) :
    (Instr.sliceAt t (.slice (some ⟨b, off, none⟩) len cp) (some (.int .i64 (m : Int))) none none).run P w = .ok (.slice (if cp = m then some (⟨b, off, none⟩ : Addr) else some ((⟨b, off, none⟩ : Addr).add (m * 3))) (len - m) (cp - m)) w := by
  simp [Instr.sliceAt, Instr.slice, Instr.sliceBounds, Instr.sliceBound, asIntOf, run_underlying ht, hs, h1, Result.andThen]
theorem cut3_front {P : Program} {t e : TypeId} (ht : P.underlying t = some (.slice e)) (hs : ∀ w, (sizeOf e).run P w = .ok 3 w) {b off len cp n : Nat} (h1 : n + 1 ≤ len) (w : World) :
    (Instr.sliceAt t (.slice (some ⟨b, off, none⟩) len cp) (some (.int .i64 ((n : Int) + 1))) none none).run P w = .ok (.slice (some (if cp = n + 1 then (⟨b, off, none⟩ : Addr) else ⟨b, off + (n + 1) * 3, none⟩)) (len - (n + 1)) (cp - (n + 1))) w := by
  have e1 : ((n : Int) + 1) = ((n + 1 : Nat) : Int) := by omega
  rw [e1, cut3_front' ht hs h1 w]
  split
  · rfl
  · rw [Addr.add_lit]
theorem cut3_mid' {P : Program} {t e : TypeId} (ht : P.underlying t = some (.slice e)) (hs : ∀ w, (sizeOf e).run P w = .ok 3 w) {b off len cp lo hi : Nat} (h1 : lo ≤ hi) (h2 : hi ≤ cp) (w : World) :
    (Instr.sliceAt t (.slice (some ⟨b, off, none⟩) len cp) (some (.int .i64 (lo : Int))) (some (.int .i64 (hi : Int))) none).run P w = .ok (.slice (if cp = lo then some (⟨b, off, none⟩ : Addr) else some ((⟨b, off, none⟩ : Addr).add (lo * 3))) (hi - lo) (cp - lo)) w := by
  simp [Instr.sliceAt, Instr.slice, Instr.sliceBounds, Instr.sliceBound, asIntOf, run_underlying ht, hs, h1, h2, Result.andThen]
theorem cut3_last {P : Program} {t e : TypeId} (ht : P.underlying t = some (.slice e)) (hs : ∀ w, (sizeOf e).run P w = .ok 3 w) {b off len cp n m : Nat} (h1 : m + 1 = n) (h2 : n ≤ cp) (w : World) :
    (Instr.sliceAt t (.slice (some ⟨b, off, none⟩) len cp) (some (.int .i64 (m : Int))) (some (.int .i64 (n : Int))) none).run P w = .ok (.slice (some ⟨b, off + m * 3, none⟩) 1 (cp - m)) w := by
  rw [cut3_mid' ht hs (by omega) h2 w, if_neg (by omega), Addr.add_lit, show n - m = 1 by omega]
theorem cut3_all' {P : Program} {t e : TypeId} (ht : P.underlying t = some (.slice e)) (hs : ∀ w, (sizeOf e).run P w = .ok 3 w) {b off len cp lo hi : Nat} (h1 : lo ≤ hi) (h2 : hi ≤ len) (h3 : len ≤ cp) (w : World) :
    (Instr.sliceAt t (.slice (some ⟨b, off, none⟩) len cp) (some (.int .i64 (lo : Int))) (some (.int .i64 (hi : Int))) (some (.int .i64 (len : Int)))).run P w = .ok (.slice (if len = lo then some (⟨b, off, none⟩ : Addr) else some ((⟨b, off, none⟩ : Addr).add (lo * 3))) (hi - lo) (len - lo)) w := by
  simp [Instr.sliceAt, Instr.slice, Instr.sliceBounds, Instr.sliceBound, asIntOf, run_underlying ht, hs, h1, h2, h3, Result.andThen]
theorem packet_size : ∀ w, (sizeOf 79).run Tryz.prog w = .ok 3 w := fun _ => by kernel_rfl
theorem packet_zero : ∀ w, (zeroValue 79).run Tryz.prog w = .ok (.agg #[.int .i64 0, .int .i64 0, .int .i64 0]) w := fun _ => by kernel_rfl
theorem packet_info : Tryz.prog.info? 79 = some ((Tryz.prog.info? 79).get (by kernel_rfl)) := by kernel_rfl
set_option maxRecDepth 100000 in
set_option maxHeartbeats 4000000 in
theorem delPk_any {w0 w : World} {R : HProp} (b off n cap i : Nat) (xs : List Value) (hi : i < n) (h1 : ∀ u ∈ xs, u.oneCell' = true) (h : Own w0 (SlAt 79 3 b off n cap xs * R) w) :
    Calls Tryz.prog 100 #[.slice (some ⟨b, off, none⟩) n cap, .int .i64 (i : Int), .int .i64 ((i : Int) + 1)] w fun e w' => e = .returned (.slice (some ⟨b, off, none⟩) (n - 1) cap) ∧ Own w0 (SlAt 79 3 b off (n - 1) cap (xs.take (i * 3) ++ xs.drop ((i + 1) * 3)) * R) w' := by
  obtain ⟨m, rfl⟩ : ∃ m, n = m + 1 := ⟨n - 1, by omega⟩
  rw [Nat.add_sub_cancel]
  obtain ⟨hb, x, a, ⟨p, q, d, rfl, ⟨cs, h2, h3, h4, h5, h6, h7⟩, hq⟩⟩ := h
  have ho : Own w0 (blk b (.cells cs 79 (0, 0)) * R) w := ⟨hb, _, a, p, q, d, rfl, h7, hq⟩
  clear hb a d h7 hq
  obtain ⟨info, hinfo, hzero, hsize⟩ : ∃ info, Tryz.prog.info? 79 = some info ∧ info.zero = some (.agg #[.int .i64 0, .int .i64 0, .int .i64 0]) ∧ info.size = 3 := ⟨_, packet_info, by kernel_rfl, by kernel_rfl⟩
  have h34 : m + 1 ≤ 9223372036854775807 := by unfold maxLen at h3; omega
  have h35 : cap ≤ 9223372036854775807 := by unfold maxLen at h3; omega
  obtain ⟨news, hnews⟩ : ∃ news, news = xs.drop ((i + 1) * 3) := ⟨_, rfl⟩
  have hlen : news.length = (m - i) * 3 := by rw [hnews, List.length_drop, h4]; omega
  have hone : ∀ u ∈ news, u.oneCell' = true := fun u hu => h1 u (by rw [hnews] at hu; exact List.mem_of_mem_drop hu)
  obtain ⟨A, hA, hsrc⟩ : ∃ A : Addr, (if cap = i + 1 then (⟨b, off, none⟩ : Addr) else ⟨b, off + (i + 1) * 3, none⟩) = A ∧ ∀ t u, news[t]? = some u → w.drew.cell? (A.add t) = some u := by
    by_cases hc : cap = i + 1
    · refine ⟨⟨b, off, none⟩, by rw [if_pos hc], fun t u hu => ?_⟩
      have h0 : news.length = 0 := by rw [hlen]; omega
      rw [List.length_eq_zero_iff.1 h0] at hu
      simp at hu
    · refine ⟨⟨b, off + (i + 1) * 3, none⟩, by rw [if_neg hc], fun t u hu => ?_⟩
      have ht : t < news.length := (List.getElem?_eq_some_iff.1 hu).1
      rw [Addr.add_lit, ho.drew.cell, show off + (i + 1) * 3 + t = off + ((i + 1) * 3 + t) by omega, h6 _ (by omega), ← List.getElem?_drop, ← hnews]
      exact hu
  have hsp : ∀ j, j < news.length → (w.drew.cell? ⟨b, off + i * 3 + j, none⟩).isSome = true ∧ w.drew.frozen? ⟨b, off + i * 3 + j, none⟩ = false := fun j hj => by
    refine ⟨?_, ho.drew.free _ _⟩
    rw [ho.drew.cell, Array.getElem?_eq_getElem (by omega)]; rfl
  obtain ⟨W1, hW1⟩ : ∃ W1, W1 = w.drew.setCells b (off + i * 3) news := ⟨_, rfl⟩
  have ho1 := Own.setCells news (off + i * 3) cs w.drew ho.drew
  rw [← hW1] at ho1
  have hcl : ∀ ty, (Builtin.clear_ #[51] ty #[.slice (some ⟨b, off + m * 3, none⟩) 1 (cap - m)]).run Tryz.prog W1 = .ok (.tuple #[]) (W1.setCells b (off + m * 3) [.int .i64 0, .int .i64 0, .int .i64 0]) := fun ty =>
    run_clear_one W1 _ _ ty _ Tryz.underlying51 packet_zero (by intro u hu; simp [Value.cells] at hu; rcases hu with rfl | rfl | rfl <;> rfl) b _ _ (fun j hj => by
      rw [ho1.cell, Array.getElem?_eq_getElem (by rw [setL_size]; have hj' : j < 3 := hj; omega)]; rfl) (fun j hj => ho1.free _ _)
  have ho2 := Own.setCells [.int .i64 0, .int .i64 0, .int .i64 0] (off + m * 3) _ W1 ho1
  have hfin : ∀ w', w' = W1.setCells b (off + m * 3) [.int .i64 0, .int .i64 0, .int .i64 0] → Own w0 (SlAt 79 3 b off m cap (xs.take (i * 3) ++ xs.drop ((i + 1) * 3)) * R) w' := by
    rintro w' rfl
    refine ho2.cons fun y hy => ⟨_, by omega, h3, ?_, by rw [setL_size, setL_size]; exact h5, ?_, hy⟩
    · rw [List.length_append, List.length_take, List.length_drop, h4]; omega
    · rw [hnews]
      exact del_cells hi h4 rfl (by omega) h6
  clear ho2
  have hi' : i + 1 ≤ m + 1 := by omega
  have hc1 := fun w => cut3_back (P := Tryz.prog) Tryz.underlying51 packet_size (b := b) (off := off) (show i ≤ m + 1 by omega) h2 w
  have hc2 := fun w => cut3_front (P := Tryz.prog) Tryz.underlying51 packet_size (b := b) (off := off) (cp := cap) (len := m + 1) (n := i) hi' w
  rw [hA] at hc2
  clear hA
  have HW1 := Lib.hid hW1
  clear hW1
  have HO := Lib.hid ho; have HO1 := Lib.hid ho1; have H1 := Lib.hid h1; have H3 := Lib.hid h3; have H4 := Lib.hid h4; have H5 := Lib.hid h5; have H6 := Lib.hid h6; have HNEWS := Lib.hid hnews; have HLEN := Lib.hid hlen; have HONE := Lib.hid hone; have HSRC := Lib.hid hsrc; have HSP := Lib.hid hsp; have HFIN := Lib.hid hfin; have HZERO := Lib.hid hzero; have HSIZE := Lib.hid hsize
  clear ho ho1 h1 h3 h4 h5 h6 hnews hlen hone hsrc hsp hfin hzero hsize
  go_enter Tryz.func100, Tryz.ntmps100
  go_upto_region 5 with fail
  refine wp_region_planH 7 [] [(true, 0), (true, 1), (true, 2), (true, 3), (true, 4), (true, 5), (false, 6)] [7] (fun wS => True) (by kernel_rfl) (by kernel_rfl) (trivial) ?_
  simp only [pickH, pick, List.getElem?_cons_succ, List.getElem?_cons_zero, Option.toList, Option.map_some, List.cons_append, List.nil_append]
  repeat (refine wpPure_step ?_ rfl ?_ ?_; rotate_left; (focus (intro _; first | with_reducible rfl | (go_simp; done) | (go_simp; with_reducible rfl) | rfl)); go_simp)
  refine wpPure_nil ?_
  repeat (refine wpMix_read ?_ rfl ?_ ?_; rotate_left; (focus (intro _ hS; obtain _ := hS; first | with_reducible rfl | (go_simp; done) | (go_simp; with_reducible rfl) | rfl)); go_simp)
  refine wpMix_write (fun K hK => ?_)
  refine step_append_room rfl (.tmp 22) (.tmp 25) 51 rfl 79 info 3 Tryz.underlying51 hinfo HSIZE.out b off i cap (by rfl) A (m - i) (cap - (i + 1)) news (by rfl) HLEN.out HSRC.out HONE.out (by omega) HSP.out ?_
  rw [← HW1.out, show i + (m - i) = m by omega]
  clear HW1
  refine hK _ _ ⟨trivial, ?_⟩
  clear hK K
  go_simp
  refine wpMix_nil ?_
  go_wp2_with fail
  refine NoPanic.normal ?_
  have hm1 : m + 1 - m = 1 := by omega
  have hmc : ¬ cap = m := by omega
  go_wp2_with fail
  go_ret
  exact ⟨rfl, HFIN.out _ rfl⟩
end Go.Proofs.YtdfjbnfdknpahaaGreatDoor
/- slices.Delete of one word, at a row that the call owns. -/
namespace Go.Proofs.YtdfjbnfdknpahaaGreatDoor
set_option linter.unusedVariables false
set_option linter.unusedSimpArgs false
open Go.RowKit
theorem saidz_size : ∀ w, (sizeOf 59).run Tryz.prog w = .ok 3 w := fun _ => by kernel_rfl
theorem saidz_zero : ∀ w, (zeroValue 59).run Tryz.prog w = .ok (.agg #[.int .i64 0, .int .i64 0, .slice none 0 0]) w := fun _ => by kernel_rfl
theorem saidz_info : Tryz.prog.info? 59 = some ((Tryz.prog.info? 59).get (by kernel_rfl)) := by kernel_rfl
set_option maxRecDepth 100000 in
set_option maxHeartbeats 4000000 in
theorem delSd_any {w0 w : World} {R : HProp} (b off n cap i : Nat) (xs : List Value) (hi : i < n) (h1 : ∀ u ∈ xs, u.oneCell' = true) (h : Own w0 (SlAt 59 3 b off n cap xs * R) w) :
    Calls Tryz.prog 104 #[.slice (some ⟨b, off, none⟩) n cap, .int .i64 (i : Int), .int .i64 ((i : Int) + 1)] w fun e w' => e = .returned (.slice (some ⟨b, off, none⟩) (n - 1) cap) ∧ Own w0 (SlAt 59 3 b off (n - 1) cap (xs.take (i * 3) ++ xs.drop ((i + 1) * 3)) * R) w' := by
  obtain ⟨m, rfl⟩ : ∃ m, n = m + 1 := ⟨n - 1, by omega⟩
  rw [Nat.add_sub_cancel]
  obtain ⟨hb, x, a, ⟨p, q, d, rfl, ⟨cs, h2, h3, h4, h5, h6, h7⟩, hq⟩⟩ := h
  have ho : Own w0 (blk b (.cells cs 59 (0, 0)) * R) w := ⟨hb, _, a, p, q, d, rfl, h7, hq⟩
  clear hb a d h7 hq
  obtain ⟨info, hinfo, hzero, hsize⟩ : ∃ info, Tryz.prog.info? 59 = some info ∧ info.zero = some (.agg #[.int .i64 0, .int .i64 0, .slice none 0 0]) ∧ info.size = 3 := ⟨_, saidz_info, by kernel_rfl, by kernel_rfl⟩
  have h34 : m + 1 ≤ 9223372036854775807 := by unfold maxLen at h3; omega
  have h35 : cap ≤ 9223372036854775807 := by unfold maxLen at h3; omega
  obtain ⟨news, hnews⟩ : ∃ news, news = xs.drop ((i + 1) * 3) := ⟨_, rfl⟩
  have hlen : news.length = (m - i) * 3 := by rw [hnews, List.length_drop, h4]; omega
  have hone : ∀ u ∈ news, u.oneCell' = true := fun u hu => h1 u (by rw [hnews] at hu; exact List.mem_of_mem_drop hu)
  obtain ⟨A, hA, hsrc⟩ : ∃ A : Addr, (if cap = i + 1 then (⟨b, off, none⟩ : Addr) else ⟨b, off + (i + 1) * 3, none⟩) = A ∧ ∀ t u, news[t]? = some u → w.drew.cell? (A.add t) = some u := by
    by_cases hc : cap = i + 1
    · refine ⟨⟨b, off, none⟩, by rw [if_pos hc], fun t u hu => ?_⟩
      have h0 : news.length = 0 := by rw [hlen]; omega
      rw [List.length_eq_zero_iff.1 h0] at hu
      simp at hu
    · refine ⟨⟨b, off + (i + 1) * 3, none⟩, by rw [if_neg hc], fun t u hu => ?_⟩
      have ht : t < news.length := (List.getElem?_eq_some_iff.1 hu).1
      rw [Addr.add_lit, ho.drew.cell, show off + (i + 1) * 3 + t = off + ((i + 1) * 3 + t) by omega, h6 _ (by omega), ← List.getElem?_drop, ← hnews]
      exact hu
  have hsp : ∀ j, j < news.length → (w.drew.cell? ⟨b, off + i * 3 + j, none⟩).isSome = true ∧ w.drew.frozen? ⟨b, off + i * 3 + j, none⟩ = false := fun j hj => by
    refine ⟨?_, ho.drew.free _ _⟩
    rw [ho.drew.cell, Array.getElem?_eq_getElem (by omega)]; rfl
  obtain ⟨W1, hW1⟩ : ∃ W1, W1 = w.drew.setCells b (off + i * 3) news := ⟨_, rfl⟩
  have ho1 := Own.setCells news (off + i * 3) cs w.drew ho.drew
  rw [← hW1] at ho1
  have hcl : ∀ ty, (Builtin.clear_ #[66] ty #[.slice (some ⟨b, off + m * 3, none⟩) 1 (cap - m)]).run Tryz.prog W1 = .ok (.tuple #[]) (W1.setCells b (off + m * 3) [.int .i64 0, .int .i64 0, .slice none 0 0]) := fun ty =>
    run_clear_one W1 _ _ ty _ Tryz.underlying66 saidz_zero (by intro u hu; simp [Value.cells] at hu; rcases hu with rfl | rfl | rfl <;> rfl) b _ _ (fun j hj => by
      rw [ho1.cell, Array.getElem?_eq_getElem (by rw [setL_size]; have hj' : j < 3 := hj; omega)]; rfl) (fun j hj => ho1.free _ _)
  have ho2 := Own.setCells [.int .i64 0, .int .i64 0, .slice none 0 0] (off + m * 3) _ W1 ho1
  have hfin : ∀ w', w' = W1.setCells b (off + m * 3) [.int .i64 0, .int .i64 0, .slice none 0 0] → Own w0 (SlAt 59 3 b off m cap (xs.take (i * 3) ++ xs.drop ((i + 1) * 3)) * R) w' := by
    rintro w' rfl
    refine ho2.cons fun y hy => ⟨_, by omega, h3, ?_, by rw [setL_size, setL_size]; exact h5, ?_, hy⟩
    · rw [List.length_append, List.length_take, List.length_drop, h4]; omega
    · rw [hnews]
      exact del_cells hi h4 rfl (by omega) h6
  clear ho2
  have hi' : i + 1 ≤ m + 1 := by omega
  have hc1 := fun w => cut3_back (P := Tryz.prog) Tryz.underlying66 saidz_size (b := b) (off := off) (show i ≤ m + 1 by omega) h2 w
  have hc2 := fun w => cut3_front (P := Tryz.prog) Tryz.underlying66 saidz_size (b := b) (off := off) (cp := cap) (len := m + 1) (n := i) hi' w
  rw [hA] at hc2
  clear hA
  have HW1 := Lib.hid hW1
  clear hW1
  have HO := Lib.hid ho; have HO1 := Lib.hid ho1; have H1 := Lib.hid h1; have H3 := Lib.hid h3; have H4 := Lib.hid h4; have H5 := Lib.hid h5; have H6 := Lib.hid h6; have HNEWS := Lib.hid hnews; have HLEN := Lib.hid hlen; have HONE := Lib.hid hone; have HSRC := Lib.hid hsrc; have HSP := Lib.hid hsp; have HFIN := Lib.hid hfin; have HZERO := Lib.hid hzero; have HSIZE := Lib.hid hsize
  clear ho ho1 h1 h3 h4 h5 h6 hnews hlen hone hsrc hsp hfin hzero hsize
  go_enter Tryz.func104, Tryz.ntmps104
  go_upto_region 5 with fail
  refine wp_region_planH 7 [] [(true, 0), (true, 1), (true, 2), (true, 3), (true, 4), (true, 5), (false, 6)] [7] (fun wS => True) (by kernel_rfl) (by kernel_rfl) (trivial) ?_
  simp only [pickH, pick, List.getElem?_cons_succ, List.getElem?_cons_zero, Option.toList, Option.map_some, List.cons_append, List.nil_append]
  repeat (refine wpPure_step ?_ rfl ?_ ?_; rotate_left; (focus (intro _; first | with_reducible rfl | (go_simp; done) | (go_simp; with_reducible rfl) | rfl)); go_simp)
  refine wpPure_nil ?_
  repeat (refine wpMix_read ?_ rfl ?_ ?_; rotate_left; (focus (intro _ hS; obtain _ := hS; first | with_reducible rfl | (go_simp; done) | (go_simp; with_reducible rfl) | rfl)); go_simp)
  refine wpMix_write (fun K hK => ?_)
  refine step_append_room rfl (.tmp 22) (.tmp 25) 66 rfl 59 info 3 Tryz.underlying66 hinfo HSIZE.out b off i cap (by rfl) A (m - i) (cap - (i + 1)) news (by rfl) HLEN.out HSRC.out HONE.out (by omega) HSP.out ?_
  rw [← HW1.out, show i + (m - i) = m by omega]
  clear HW1
  refine hK _ _ ⟨trivial, ?_⟩
  clear hK K
  go_simp
  refine wpMix_nil ?_
  go_wp2_with fail
  refine NoPanic.normal ?_
  have hm1 : m + 1 - m = 1 := by omega
  have hmc : ¬ cap = m := by omega
  go_wp2_with fail
  go_ret
  exact ⟨rfl, HFIN.out _ rfl⟩
end Go.Proofs.YtdfjbnfdknpahaaGreatDoor
