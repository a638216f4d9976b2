/- The reference's net, continued: Give. -/
import Derived.Test.YtldmdenojpnldaaDoorMCastPlays16
import Derived.Test.YtldmdenojpnldaaDoorMCastPlays12
namespace Go.Proofs.YtldmdenojpnldaaDoor
set_option linter.unusedVariables false
set_option linter.unusedSimpArgs false
open Go.RowKit Go.Maps
set_option maxRecDepth 100000 in
set_option maxHeartbeats 4000000 in
theorem rnGive_any {w0 w : World} {R : HProp} (p : Nat) (s : Nt) (i : Int) (hI : NtI s) (h : Own w0 (RnP p s * R) w) :
    Calls Tryd.prog 22 #[.pointer (some ⟨p, 0, none⟩), .int .i64 i] w fun e w' => e = .returned (.tuple #[evV (ntGiven s i), .int .i64 (ntGiveErr s i)]) ∧ Own w0 (RnP p (ntGive s i) * R) w' := by
  obtain ⟨b1, hb_b1⟩ : ∃ zz_, zz_ = (w).heap.size := ⟨_, rfl⟩
  obtain ⟨w1, hw_w1⟩ : ∃ zz_, zz_ = (w).alloc (.cells #[.int .i64 0, .int .i64 0, .int .i64 0] 23 (0, 0)) := ⟨_, rfl⟩
  have h_HO := (h).alloc (.cells #[.int .i64 0, .int .i64 0, .int .i64 0] 23 (0, 0))
  rw [← hb_b1, ← hw_w1] at h_HO
  have HO := Lib.hid h_HO
  clear h_HO
  have HO1 : Hid (Own w0 (RnP p s * (PkO b1 (0, 0, 0) * R)) w1) := Lib.hid HO.out.second
  obtain ⟨x0, x1, x2⟩ := HO1.out.second.pk
  have xf0 := HO1.out.second.pk_free 0 none
  have xf1 := HO1.out.second.pk_free 1 none
  have xf2 := HO1.out.second.pk_free 2 none
  simp only at x0 x1 x2
  clear HO h
  obtain ⟨ad, cap0, B, hB, h3, h4, ho⟩ := HO1.out.rn_open
  obtain ⟨c0, cf, cb⟩ := ho.rn_facts
  cases hh : ntHas s i
  · have hE : ntGiveErr s i = 1 := by unfold ntGiveErr; rw [hh]; rfl
    have hS : ntGive s i = s := by unfold ntGive; rw [hE]; rfl
    have hG : ntGiven s i = (0, 0, 0) := by unfold ntGiven; rw [hE]; rfl
    rw [hE, hS, hG]
    have HPUT := Lib.hid (HO1.out.second.pk_put (0, 0, 0))
    obtain ⟨q0, q1, q2⟩ := HPUT.out.pk
    simp only at q0 q1 q2
    obtain ⟨L, hL⟩ : ∃ L, L = s.all.length := ⟨_, rfl⟩
    have hno : i < 0 ∨ (L : Int) ≤ i := by
      have := mt (ntHas_iff (s := s) (i := i)).2 (by rw [hh]; simp)
      omega
    rw [← hL] at c0 h3
    by_cases hi0 : i < 0
    · have t1 : decide (i < 0) = true := by simpa using hi0
      have HE := Lib.hid hE; have HS := Lib.hid hS; have HG := Lib.hid hG; have HI := Lib.hid hI; have HB := Lib.hid hB; have CF := Lib.hid cf; have CB := Lib.hid cb; have HO := Lib.hid ho; have HH := Lib.hid hh; have HL := Lib.hid hL; have HNO := Lib.hid hno; have HI0 := Lib.hid hi0
      clear hE hS hG hI hB cf cb ho hh hL hno hi0
      go_enter Tryd.func22, Tryd.ntmps22
      go_upto_region 1 with fail
      rw [← hb_b1, ← hw_w1]
      clear hb_b1 hw_w1
      go_wp2_with fail
      exact bodyPost_ret (v := .tuple #[evV (0, 0, 0), .int .i64 1]) (by simp [results, Tryd.results22, go_sem, q0, q1, q2, evV]) rfl ⟨rfl, HPUT.out.drop⟩
    · have t1 : decide (i < 0) = false := by simpa using hi0
      have t2 : decide ((L : Int) ≤ i) = true := decide_eq_true (by omega)
      have HE := Lib.hid hE; have HS := Lib.hid hS; have HG := Lib.hid hG; have HI := Lib.hid hI; have HB := Lib.hid hB; have CF := Lib.hid cf; have CB := Lib.hid cb; have HO := Lib.hid ho; have HH := Lib.hid hh; have HL := Lib.hid hL; have HNO := Lib.hid hno; have HI0 := Lib.hid hi0
      clear hE hS hG hI hB cf cb ho hh hL hno hi0
      go_enter Tryd.func22, Tryd.ntmps22
      go_upto_region 1 with fail
      rw [← hb_b1, ← hw_w1]
      clear hb_b1 hw_w1
      go_wp2_with fail
      exact bodyPost_ret (v := .tuple #[evV (0, 0, 0), .int .i64 1]) (by simp [results, Tryd.results22, go_sem, q0, q1, q2, evV]) rfl ⟨rfl, HPUT.out.drop⟩
  obtain ⟨hi0, hi1⟩ := ntHas_iff.1 hh
  obtain ⟨k, rfl⟩ : ∃ k : Nat, i = (k : Int) := ⟨i.toNat, by omega⟩
  have hk : k < s.all.length := by omega
  have hlen := hI.len
  obtain ⟨pe1, pe2, _, pe3⟩ := pkErr0 (hI.ok _ (ntAt_mem hh))
  obtain ⟨D, hD⟩ : ∃ D, D = ntCutAt s k := ⟨_, rfl⟩
  have hE : ntGiveErr s k = if D = true then 6 else 0 := by unfold ntGiveErr; rw [hh, ← hD]; rfl
  obtain ⟨b, off, cap0', hv, h5, h6, d0, d1, d2⟩ := ho.rn_at hk
  unfold ntCutAt at hD
  have hG0 : ntGiven s k = if D = true then (0, 0, 0) else ntAt s k := by unfold ntGiven; rw [hE]; cases D <;> rfl
  have hS0 : ntGive s k = if D = true then s else ntOut s k := by unfold ntGive; rw [hE]; cases D <;> rfl
  injection hv with ev1 _ ev3
  subst ev1; subst ev3
  have HOut := fun w' (h' : Own w0 (RnP p s * (PkO b1 (0, 0, 0) * R)) w') => True
  obtain ⟨L, hL⟩ : ∃ L, L = s.all.length := ⟨_, rfl⟩
  have hkl := hk
  rw [← hL] at hk hlen h3 h5 c0 ho
  rw [hE, hG0, hS0]
  obtain ⟨X, hX⟩ : ∃ x, x = ntAt s k := ⟨_, rfl⟩
  rw [← hX] at d0 d1 d2 hD pe1 pe2 pe3 ⊢
  clear hE hG0 hS0 HOut
  obtain ⟨xa, xb, xd⟩ := X
  simp only at d0 d1 d2 hD pe1 pe2 pe3
  simp only [isMember, Bool.and_eq_true, decide_eq_true_eq] at pe1 pe2
  obtain ⟨A1, rfl⟩ : ∃ a : Nat, xa = (a : Int) := ⟨xa.toNat, by omega⟩
  obtain ⟨B1, rfl⟩ : ∃ a : Nat, xb = (a : Int) := ⟨xb.toNat, by omega⟩
  have hA5 : A1 < 5 := by omega
  have hB5 : B1 < 5 := by omega
  have iA0 : (0 : Int) ≤ (A1 : Int) := by omega
  have iB0 : (0 : Int) ≤ (B1 : Int) := by omega
  have iA5 : (A1 : Int) < 5 := by omega
  have iB5 : (B1 : Int) < 5 := by omega
  have hbc := hB.2 A1 B1 hA5 hB5 (by omega)
  rw [← hD] at hbc
  obtain ⟨b2, hb_b2⟩ : ∃ zz_, zz_ = (w1).heap.size := ⟨_, rfl⟩
  obtain ⟨w2, hw_w2⟩ : ∃ zz_, zz_ = (w1).alloc (.cells #[.int .i64 A1, .int .i64 B1, .int .i64 xd] 23 (0, 0)) := ⟨_, rfl⟩
  have h_HB2 := (ho).alloc (.cells #[.int .i64 A1, .int .i64 B1, .int .i64 xd] 23 (0, 0))
  rw [← hb_b2, ← hw_w2] at h_HB2
  have HB2 := Lib.hid h_HB2
  clear h_HB2
  have HO2 : Hid (Own w0 (RnO p (.slice (some ⟨b, off, none⟩) L cap0) B s * (PkO b2 ((A1 : Int), (B1 : Int), xd) * (PkO b1 (0, 0, 0) * R))) w2) := Lib.hid HB2.out.second
  clear HB2
  obtain ⟨e0, _, eb⟩ := HO2.out.rn_facts
  have eb1 := eb _ _ hbc
  obtain ⟨y0, y1, y2⟩ := HO2.out.second.pk
  obtain ⟨z0, z1, z2⟩ := HO2.out.third.pk
  have zf0 := HO2.out.third.pk_free 0 none
  have zf1 := HO2.out.third.pk_free 1 none
  have zf2 := HO2.out.third.pk_free 2 none
  simp only at y0 y1 y2 z0 z1 z2
  rw [show 1 + (5 * A1 + B1) = 1 + A1 * 5 + B1 by omega] at eb1
  clear eb
  have HI := Lib.hid hI; have HO := Lib.hid ho; have CF := Lib.hid cf; have CB := Lib.hid cb; have HL := Lib.hid hL; have HX := Lib.hid hX; have HD := Lib.hid hD; have HB := Lib.hid hB; have HBC := Lib.hid hbc; have PE3 := Lib.hid pe3; have HKL := Lib.hid hkl
  clear hI ho cf cb hL hX hD hB hbc pe3 hkl
  go_enter Tryd.func22, Tryd.ntmps22
  go_upto_region 1 with fail
  rw [← hb_b1, ← hw_w1]
  clear hb_b1 hw_w1
  go_upto_region 4 with fail
  rw [← hb_b2, ← hw_w2]
  clear hb_b2 hw_w2
  clear c0 d0 d1 d2 x0 x1 x2 xf0 xf1 xf2
  go_wp2_with fail
  go_quiet (fail)
  have HO3 := Lib.hid (HO2.out.drewN nq)
  cases D
  · have hout := rnOut_any p s k HKL.out HI.out ((HO2.out.drewN nq).rn_close HB.out)
    clear e0 eb1 y0 y1 y2 z0 z1 z2 zf0 zf1 zf2
    go_wp2_with fail
    refine hout.mono ?_
    rintro e w4 ⟨rfl, ho4⟩
    obtain ⟨y0, y1, y2⟩ := ho4.second.pk
    obtain ⟨z0, z1, z2⟩ := ho4.third.pk
    have zf0 := ho4.third.pk_free 0 none
    have zf1 := ho4.third.pk_free 1 none
    have zf2 := ho4.third.pk_free 2 none
    have HPUT := Lib.hid (ho4.third.pk_put ((A1 : Int), (B1 : Int), xd))
    obtain ⟨q0, q1, q2⟩ := HPUT.out.pk
    simp only at y0 y1 y2 z0 z1 z2 q0 q1 q2
    clear ho4 hout
    go_wp2_with fail
    exact bodyPost_ret (v := .tuple #[evV ((A1 : Int), (B1 : Int), xd), .int .i64 0]) (by simp [results, Tryd.results22, go_sem, q0, q1, q2, evV]) rfl ⟨rfl, HPUT.out.drop.second.drop⟩
  · have HPUT := Lib.hid (HO3.out.third.pk_put (0, 0, 0))
    obtain ⟨q0, q1, q2⟩ := HPUT.out.pk
    simp only at q0 q1 q2
    go_wp2_with fail
    exact bodyPost_ret (v := .tuple #[evV (0, 0, 0), .int .i64 6]) (by simp [results, Tryd.results22, go_sem, q0, q1, q2, evV]) rfl ⟨rfl, (HPUT.out.drop.rn_close HB.out).second.drop⟩
end Go.Proofs.YtldmdenojpnldaaDoor
/- The reference's Cast as it lies in memory. -/
namespace Go.Proofs.YtldmdenojpnldaaDoor
set_option linter.unusedVariables false
set_option linter.unusedSimpArgs false
open Go.RowKit Go.Maps
/-- A member of the reference: where it lies, and its rows. -/
structure RmR where
  q : Nat
  vv : Value
  rows : List SdR
  m : Ca
def rmV (r : RmR) : Value := .pointer (some ⟨r.q, 0, none⟩)
def rmP (r : RmR) : HProp := RcO r.q r.vv r.rows r.m.me r.m.clk
def rkCells (mv : Value) (nb : Nat) (S : List SdR) (many : Int) (hv : Value) : List Value := mv :: .pointer (some ⟨nb, 0, none⟩) :: (S.flatMap sdCells ++ [.int .i64 many, hv])
abbrev rkBlk (p : Nat) (mv : Value) (nb : Nat) (S : List SdR) (many : Int) (hv : Value) : HProp := blk p (.cells (rkCells mv nb S many hv).toArray 90 (0, 0))
theorem rkc_said {mv : Value} {nb : Nat} {S : List SdR} {many : Int} {hv : Value} {w j : Nat} (hw : w < S.length) (hj : j < 3) : (rkCells mv nb S many hv)[2 + w * 3 + j]? = (sdCells S[w])[j]? := by
  unfold rkCells
  rw [show 2 + w * 3 + j = (w * 3 + j) + 1 + 1 by omega, List.getElem?_cons_succ, List.getElem?_cons_succ, List.getElem?_append_left (by rw [sd_len]; omega), cells_get sdCells 3 (fun _ => rfl) S w j hw hj]
theorem rkc_many {mv : Value} {nb : Nat} {S : List SdR} {many : Int} {hv : Value} (h : S.length = 31) : (rkCells mv nb S many hv)[95]? = some (.int .i64 many) := by
  unfold rkCells
  rw [List.getElem?_cons_succ, List.getElem?_cons_succ, List.getElem?_append_right (by rw [sd_len]; omega), sd_len, h]; rfl
theorem rkc_hist {mv : Value} {nb : Nat} {S : List SdR} {many : Int} {hv : Value} (h : S.length = 31) : (rkCells mv nb S many hv)[96]? = some hv := by
  unfold rkCells
  rw [List.getElem?_cons_succ, List.getElem?_cons_succ, List.getElem?_append_right (by rw [sd_len]; omega), sd_len, h]; rfl
theorem rkc_mset {mv v' : Value} {nb : Nat} {S : List SdR} {many : Int} {hv : Value} : (rkCells mv nb S many hv).set 0 v' = rkCells v' nb S many hv := rfl
theorem rkc_manyset {mv : Value} {nb : Nat} {S : List SdR} {many x : Int} {hv : Value} (h : S.length = 31) : (rkCells mv nb S many hv).set 95 (.int .i64 x) = rkCells mv nb S x hv := by
  unfold rkCells
  rw [List.set_cons_succ, List.set_cons_succ, List.set_append_right _ _ (by rw [sd_len]; omega), sd_len, h]; rfl
theorem rkc_histset {mv : Value} {nb : Nat} {S : List SdR} {many : Int} {hv v' : Value} (h : S.length = 31) : (rkCells mv nb S many hv).set 96 v' = rkCells mv nb S many v' := by
  unfold rkCells
  rw [List.set_cons_succ, List.set_cons_succ, List.set_append_right _ _ (by rw [sd_len]; omega), sd_len, h]; rfl
theorem flat_set : ∀ (S : List SdR) (w : Nat), w < S.length → ∀ r : SdR, (((S.flatMap sdCells).set (w * 3) (.int .i64 r.2.who)).set (w * 3 + 1) (.int .i64 r.2.word)).set (w * 3 + 2) r.1 = (S.set w r).flatMap sdCells
  | [], w, h, r => by simp at h
  | x :: S, 0, _, r => rfl
  | x :: S, w + 1, h, r => by
    have ih := flat_set S w (by simpa using h) r
    rw [List.set_cons_succ, List.flatMap_cons, List.flatMap_cons, ← ih]
    rw [show (w + 1) * 3 = w * 3 + 1 + 1 + 1 by omega]
    rfl
theorem set_two (a b : Value) (X : List Value) (i : Nat) (v : Value) : (a :: b :: X).set (2 + i) v = a :: b :: X.set i v := by
  rw [Nat.add_comm]; rfl
theorem rkc_sdset {mv : Value} {nb : Nat} {S : List SdR} {many : Int} {hv : Value} {w : Nat} (hw : w < S.length) (r : SdR) :
    (((rkCells mv nb S many hv).set (2 + w * 3) (.int .i64 r.2.who)).set (2 + w * 3 + 1) (.int .i64 r.2.word)).set (2 + w * 3 + 2) r.1 = rkCells mv nb (S.set w r) many hv := by
  have l : (S.flatMap sdCells).length = S.length * 3 := sd_len S
  unfold rkCells
  rw [← flat_set S w hw r, Nat.add_assoc 2 (w * 3) 1, Nat.add_assoc 2 (w * 3) 2, set_two, set_two, set_two]
  rw [List.set_append_left (w * 3) _ (by omega), List.set_append_left (w * 3 + 1) _ (by rw [List.length_set]; omega), List.set_append_left (w * 3 + 2) _ (by rw [List.length_set, List.length_set]; omega)]
def RkO (p mb off cap nb : Nat) (hv : Value) (S : List SdR) (rms : List RmR) (c : Cs) : HProp :=
  rkBlk p (.slice (some ⟨mb, off, none⟩) rms.length cap) nb S (c.said.length : Int) hv * (TabO rmP rmV 66 mb off cap rms * (RnP nb c.net * (starL sdRow S * EvSl hv c.hist)))
/-- What the reference's group has to do with the plain one. -/
structure RkIs (S : List SdR) (rms : List RmR) (c : Cs) : Prop where
  mem : rms.map (·.m) = c.mem
  rows : ∀ r ∈ rms, r.rows.map (·.2) = r.m.waits ∧ ∀ x ∈ r.rows, x ∈ S
  len : S.length = 31
  said : ∀ (w : Nat) (h : w < S.length), S[w].2 = csSd c (w : Int)
def RkP (p : Nat) (c : Cs) : HProp := hex fun (x : (Nat × Nat × Nat × Nat) × Value × List SdR × List RmR) => pur (RkIs x.2.2.1 x.2.2.2 c) * RkO p x.1.1 x.1.2.1 x.1.2.2.1 x.1.2.2.2 x.2.1 x.2.2.1 x.2.2.2 c
theorem Own.rk_open {w0 w : World} {p : Nat} {c : Cs} {R : HProp} (h : Own w0 (RkP p c * R) w) : ∃ mb off cap nb hv S rms, RkIs S rms c ∧ Own w0 (RkO p mb off cap nb hv S rms c * R) w := by
  obtain ⟨⟨⟨mb, off, cap, nb⟩, hv, S, rms⟩, h⟩ := Own.ex h
  rw [star_assoc] at h
  obtain ⟨he, h⟩ := Own.pur_out h
  exact ⟨mb, off, cap, nb, hv, S, rms, he, h⟩
theorem Own.rk_close {w0 w : World} {p mb off cap nb : Nat} {hv : Value} {S : List SdR} {rms : List RmR} {c : Cs} {R : HProp} (he : RkIs S rms c) (h : Own w0 (RkO p mb off cap nb hv S rms c * R) w) : Own w0 (RkP p c * R) w := by
  refine Own.ex_mk ((mb, off, cap, nb), hv, S, rms) ?_
  rw [star_assoc]
  exact Own.pur_mk he h
section
variable {w0 w : World} {p mb off cap nb : Nat} {hv mv : Value} {S : List SdR} {many : Int} {rms : List RmR} {c : Cs} {R : HProp}
theorem Own.rkb_facts (h31 : S.length = 31) (h : Own w0 (rkBlk p mv nb S many hv * R) w) :
    w.cell? ⟨p, 0, none⟩ = some mv ∧ w.cell? ⟨p, 1, none⟩ = some (.pointer (some ⟨nb, 0, none⟩)) ∧ w.cell? ⟨p, 95, none⟩ = some (.int .i64 many) ∧ w.cell? ⟨p, 96, none⟩ = some hv ∧ (∀ i s, w.frozen? ⟨p, i, s⟩ = false) ∧
    ∀ (k : Nat) (hk : k < S.length), w.cell? ⟨p, 2 + k * 3, none⟩ = some (.int .i64 S[k].2.who) ∧ w.cell? ⟨p, 2 + k * 3 + 1, none⟩ = some (.int .i64 S[k].2.word) ∧ w.cell? ⟨p, 2 + k * 3 + 2, none⟩ = some S[k].1 := by
  refine ⟨by rw [Own.cell h]; rfl, by rw [Own.cell h]; rfl, ?_, ?_, fun i s => Own.free h i s, fun k hk => ⟨?_, ?_, ?_⟩⟩
  · rw [Own.cell h, List.getElem?_toArray]; exact rkc_many h31
  · rw [Own.cell h, List.getElem?_toArray]; exact rkc_hist h31
  · rw [Own.cell h, List.getElem?_toArray]; exact rkc_said (j := 0) hk (by omega)
  · rw [Own.cell h, List.getElem?_toArray]; exact rkc_said (j := 1) hk (by omega)
  · rw [Own.cell h, List.getElem?_toArray]; exact rkc_said (j := 2) hk (by omega)
theorem Own.rkb_many (h31 : S.length = 31) (x : Int) (h : Own w0 (rkBlk p mv nb S many hv * R) w) : Own w0 (rkBlk p mv nb S x hv * R) (w.setCell ⟨p, 95, none⟩ (.int .i64 x)) := by
  have h1 := Own.setCell (i := 95) (v := .int .i64 x) h
  rw [List.setIfInBounds_toArray, rkc_manyset h31] at h1
  exact h1
theorem Own.rkb_hist (h31 : S.length = 31) (v' : Value) (h : Own w0 (rkBlk p mv nb S many hv * R) w) : Own w0 (rkBlk p mv nb S many v' * R) (w.setCell ⟨p, 96, none⟩ v') := by
  have h1 := Own.setCell (i := 96) (v := v') h
  rw [List.setIfInBounds_toArray, rkc_histset h31] at h1
  exact h1
theorem Own.rkb_mem (v' : Value) (h : Own w0 (rkBlk p mv nb S many hv * R) w) : Own w0 (rkBlk p v' nb S many hv * R) (w.setCell ⟨p, 0, none⟩ v') := by
  have h1 := Own.setCell (i := 0) (v := v') h
  rw [List.setIfInBounds_toArray, rkc_mset] at h1
  exact h1
theorem Own.rkb_sd {k : Nat} (hk : k < S.length) (r : SdR) (h : Own w0 (rkBlk p mv nb S many hv * R) w) :
    Own w0 (rkBlk p mv nb (S.set k r) many hv * R) (((w.setCell ⟨p, 2 + k * 3, none⟩ (.int .i64 r.2.who)).setCell ⟨p, 2 + k * 3 + 1, none⟩ (.int .i64 r.2.word)).setCell ⟨p, 2 + k * 3 + 2, none⟩ r.1) := by
  have h1 := Own.setCell (i := 2 + k * 3 + 2) (v := r.1) (Own.setCell (i := 2 + k * 3 + 1) (v := .int .i64 r.2.word) (Own.setCell (i := 2 + k * 3) (v := .int .i64 r.2.who) h))
  rw [List.setIfInBounds_toArray, List.setIfInBounds_toArray, List.setIfInBounds_toArray, rkc_sdset hk r] at h1
  exact h1
theorem Own.rk_blk (h : Own w0 (RkO p mb off cap nb hv S rms c * R) w) : Own w0 (rkBlk p (.slice (some ⟨mb, off, none⟩) rms.length cap) nb S (c.said.length : Int) hv * (TabO rmP rmV 66 mb off cap rms * (RnP nb c.net * (starL sdRow S * (EvSl hv c.hist * R))))) w := h.perm (by unfold RkO; ac_rfl)
theorem Own.rk_tab (h : Own w0 (RkO p mb off cap nb hv S rms c * R) w) : Own w0 (TabO rmP rmV 66 mb off cap rms * (rkBlk p (.slice (some ⟨mb, off, none⟩) rms.length cap) nb S (c.said.length : Int) hv * (RnP nb c.net * (starL sdRow S * (EvSl hv c.hist * R))))) w := h.perm (by unfold RkO; ac_rfl)
theorem Own.rk_net (h : Own w0 (RkO p mb off cap nb hv S rms c * R) w) : Own w0 (RnP nb c.net * (rkBlk p (.slice (some ⟨mb, off, none⟩) rms.length cap) nb S (c.said.length : Int) hv * (TabO rmP rmV 66 mb off cap rms * (starL sdRow S * (EvSl hv c.hist * R))))) w := h.perm (by unfold RkO; ac_rfl)
theorem Own.rk_net_put {nt : Nt} (h : Own w0 (RnP nb nt * (rkBlk p (.slice (some ⟨mb, off, none⟩) rms.length cap) nb S (c.said.length : Int) hv * (TabO rmP rmV 66 mb off cap rms * (starL sdRow S * (EvSl hv c.hist * R))))) w) : Own w0 (RkO p mb off cap nb hv S rms { c with net := nt } * R) w := h.perm (by unfold RkO; ac_rfl)
theorem Own.rk_facts (he : RkIs S rms c) (h : Own w0 (RkO p mb off cap nb hv S rms c * R) w) :
    w.cell? ⟨p, 0, none⟩ = some (.slice (some ⟨mb, off, none⟩) rms.length cap) ∧ w.cell? ⟨p, 1, none⟩ = some (.pointer (some ⟨nb, 0, none⟩)) ∧ w.cell? ⟨p, 95, none⟩ = some (.int .i64 (c.said.length : Int)) ∧ w.cell? ⟨p, 96, none⟩ = some hv ∧ (∀ i s, w.frozen? ⟨p, i, s⟩ = false) ∧
    (∀ (i : Nat) r, rms[i]? = some r → w.cell? ⟨mb, off + i, none⟩ = some (rmV r)) ∧ rms.length ≤ cap ∧ cap ≤ maxLen := by
  obtain ⟨a0, a1, a2, a3, a4, _⟩ := h.rk_blk.rkb_facts he.len
  have h2 := h.rk_tab.tab_facts
  exact ⟨a0, a1, a2, a3, a4, h2.1, h2.2.2.1, h2.2.2.2⟩
end
theorem RkIs.memLen {S : List SdR} {rms : List RmR} {c : Cs} (he : RkIs S rms c) : rms.length = c.mem.length := by rw [← he.mem, List.length_map]
theorem zeroSd_len : (List.replicate 31 nilSdR).length = 31 := List.length_replicate
end Go.Proofs.YtldmdenojpnldaaDoor
/- The reference's Cast: NewCast. -/
namespace Go.Proofs.YtldmdenojpnldaaDoor
set_option linter.unusedVariables false
set_option linter.unusedSimpArgs false
open Go.RowKit Go.Maps
theorem rn_zero (p : Nat) {w0 w : World} {R : HProp} (h : Own w0 (rnBlk p (.slice none 0 0) (List.replicate 25 false) * R) w) : Own w0 (RnP p ⟨[], []⟩ * R) w := by
  refine Own.rn_close (v := .slice none 0 0) (B := List.replicate 25 false) ⟨by simp, fun a b ha hb _ => ?_⟩ ((h.sl_nil 23 3).perm ?_)
  · rw [List.getElem?_replicate, if_pos (by omega)]
    simp
  · unfold RnO PkSl
    simp only [List.length_nil, List.flatMap_nil]
    ac_rfl
theorem Own.rc_zero' {w0 w : World} {p : Nat} {me : Int} {R : HProp} (h : Own w0 (blk p (.cells #[.int .i64 me, .int .i64 0, .int .i64 0, .int .i64 0, .int .i64 0, .int .i64 0, .slice none 0 0] 69 (0, 0)) * R) w) : Own w0 (rmP ⟨p, .slice none 0 0, [], caNew me⟩ * R) w := by
  unfold rmP RcO
  rw [List.length_nil, List.flatMap_nil, Sl_nil, star_emp]
  exact h
theorem info_rm : (Tryd.prog.info? 66).map (fun i => (i.zero, i.size, i.bytes)) = some (some (.pointer none), 1, 8) := by kernel_rfl
theorem rk_zero (nb : Nat) : Tryd.zeroCells90.setIfInBounds 1 (.pointer (some ⟨nb, 0, none⟩)) = (rkCells (.slice none 0 0) nb (List.replicate 31 nilSdR) 0 (.slice none 0 0)).toArray := by kernel_rfl
/-- The reference's group in the making. -/
def RkNn (p nb : Nat) (mv : Value) (rms : List RmR) : HProp := rkBlk p mv nb (List.replicate 31 nilSdR) 0 (.slice none 0 0) * (Sl 66 1 mv rms.length (rms.map rmV) * (starL rmP rms * RnP nb ⟨[], []⟩))
section
variable {w0 w : World} {p nb : Nat} {mv : Value} {rms : List RmR} {R : HProp}
theorem rkN_open (h : Own w0 (RkNn p nb mv rms * R) w) : Own w0 (rkBlk p mv nb (List.replicate 31 nilSdR) 0 (.slice none 0 0) * (Sl 66 1 mv rms.length (rms.map rmV) * (starL rmP rms * (RnP nb ⟨[], []⟩ * R)))) w := h.perm (by unfold RkNn; ac_rfl)
theorem rkN_app {r : RmR} (h : Own w0 (rmP r * (RkNn p nb mv rms * R)) w) : Own w0 (Sl 66 1 mv rms.length (rms.map rmV) * (rkBlk p mv nb (List.replicate 31 nilSdR) 0 (.slice none 0 0) * (starL rmP rms * (RnP nb ⟨[], []⟩ * (rmP r * R))))) w := h.perm (by unfold RkNn; ac_rfl)
theorem rkN_push {r : RmR} {v' : Value}
    (h : Own w0 (Sl 66 1 v' (rms.length + 1) (rms.map rmV ++ [rmV r]) * (rkBlk p mv nb (List.replicate 31 nilSdR) 0 (.slice none 0 0) * (starL rmP rms * (RnP nb ⟨[], []⟩ * (rmP r * R))))) w) :
    Own w0 (RkNn p nb v' (rms ++ [r]) * R) (w.setCell ⟨p, 0, none⟩ v') := by
  have h1 := h.second.rkb_mem v'
  refine h1.perm ?_
  unfold RkNn
  rw [starL_snoc, List.length_append, List.map_append]
  simp only [List.length_singleton, List.map_cons, List.map_nil]
  ac_rfl
theorem starL_reps (n : Nat) : starL sdRow (List.replicate n nilSdR) = emp := by
  induction n with
  | zero => rfl
  | succ n ih => rw [List.replicate_succ]; simp only [starL]; rw [sdRow_nil, ih, emp_star]
theorem rkN_done {n : Nat} (hn : 0 < rms.length) (hl : rms.map (·.m) = (List.range n).map fun i : Nat => caNew (i : Int)) (hr : ∀ r ∈ rms, r.rows = [] ∧ r.m.waits = []) (h : Own w0 (RkNn p nb mv rms * R) w) : Own w0 (RkP p (csNew n) * R) w := by
  obtain ⟨b, off, cap, rfl, h2⟩ := (rkN_open h).second.slAt (by simpa using hn)
  refine Own.rk_close (mb := b) (off := off) (cap := cap) (nb := nb) (hv := .slice none 0 0) (S := List.replicate 31 nilSdR) (rms := rms) ⟨hl, fun r hr' => ?_, by simp, fun w hw => ?_⟩ ((h2.sl_nil 102 3).perm ?_)
  · obtain ⟨a, b⟩ := hr r hr'
    rw [a, b]
    exact ⟨rfl, fun x hx => by cases hx⟩
  · rw [List.getElem_replicate]; rfl
  unfold RkO TabO EvSl
  rw [starL_reps]
  show _ = rkBlk p _ nb _ ((0 : Nat) : Int) _ * (_ * (RnP nb ⟨[], []⟩ * (emp * Sl 102 3 (.slice none 0 0) 0 []))) * R
  rw [emp_star]
  ac_rfl
end
set_option maxRecDepth 100000 in
set_option maxHeartbeats 4000000 in
theorem rkNew_any {w0 w : World} {R : HProp} (n : Nat) (h2 : 2 ≤ n) (h5 : n ≤ 5) (h : Own w0 R w) :
    Calls Tryd.prog 39 #[.int .i64 (n : Int)] w fun e w' => ∃ p, e = .returned (.pointer (some ⟨p, 0, none⟩)) ∧ Own w0 (RkP p (csNew n) * R) w' := by
  obtain ⟨nb, hb_nb⟩ : ∃ zz_, zz_ = (w).heap.size := ⟨_, rfl⟩
  obtain ⟨w1, hw_w1⟩ : ∃ zz_, zz_ = (w).alloc (.cells #[.slice none 0 0, .bool false, .bool false, .bool false, .bool false, .bool false, .bool false, .bool false, .bool false, .bool false, .bool false, .bool false, .bool false, .bool false, .bool false, .bool false, .bool false, .bool false, .bool false, .bool false, .bool false, .bool false, .bool false, .bool false, .bool false, .bool false] 44 (0, 0)) := ⟨_, rfl⟩
  have h_HB1 := (h).alloc (.cells #[.slice none 0 0, .bool false, .bool false, .bool false, .bool false, .bool false, .bool false, .bool false, .bool false, .bool false, .bool false, .bool false, .bool false, .bool false, .bool false, .bool false, .bool false, .bool false, .bool false, .bool false, .bool false, .bool false, .bool false, .bool false, .bool false, .bool false] 44 (0, 0))
  rw [← hb_nb, ← hw_w1] at h_HB1
  have HB1 := Lib.hid h_HB1
  clear h_HB1
  have hz := rk_zero nb
  obtain ⟨p, hb_p⟩ : ∃ zz_, zz_ = (w1).heap.size := ⟨_, rfl⟩
  obtain ⟨w2, hw_w2⟩ : ∃ zz_, zz_ = (w1).alloc (.cells (rkCells (.slice none 0 0) nb (List.replicate 31 nilSdR) 0 (.slice none 0 0)).toArray 90 (0, 0)) := ⟨_, rfl⟩
  have h_HB2 := (HB1.out).alloc (.cells (rkCells (.slice none 0 0) nb (List.replicate 31 nilSdR) 0 (.slice none 0 0)).toArray 90 (0, 0))
  rw [← hb_p, ← hw_w2] at h_HB2
  have HB2 := Lib.hid h_HB2
  clear h_HB2
  have HN : Hid (Own w0 (RkNn p nb (.slice none 0 0) [] * R) w2) := Lib.hid (by
    have h1 := rn_zero nb (HB2.out.second.perm (show _ = rnBlk nb (.slice none 0 0) (List.replicate 25 false) * _ from rfl))
    refine (h1.sl_nil 66 1).perm ?_
    unfold RkNn rkBlk
    simp only [starL, List.length_nil, List.map_nil]
    rw [emp_star]
    ac_rfl)
  clear HB1 HB2
  have H := Lib.hid h; have HZ := Lib.hid hz
  clear h hz
  go_enter Tryd.func39, Tryd.ntmps39
  go_upto_block 0 with fail
  rw [← hb_nb, HZ.out]
  have hq_p : nb + 1 = p := by rw [hb_p, hw_w1, hb_nb, World.size_alloc]
  rw [hq_p, ← hw_w1, ← hw_w2]
  clear hq_p hb_p hw_w1 hb_nb hw_w2
  generalize (rkCells (.slice none 0 0) nb (List.replicate 31 nilSdR) 0 (.slice none 0 0)).toArray = Z
  go_wp2_with fail
  go_loopw [4] (fun iv wr => ∃ (k : Nat) (mv : Value) (rms : List RmR), k ≤ n ∧ iv = .int .i64 k ∧ Hid (rms.length = k ∧ rms.map (·.m) = ((List.range k).map fun i : Nat => caNew (i : Int)) ∧ ∀ r ∈ rms, r.rows = [] ∧ r.m.waits = []) ∧ Hid (Own w0 (RkNn p nb mv rms * R) wr)) (fun iv _ => n - (intOf iv).toNat)
  case atStart => exact ⟨0, _, [], Nat.zero_le _, rfl, Lib.hid ⟨rfl, rfl, fun r hr => by cases hr⟩, HN⟩
  case round =>
    clear HN
    obtain ⟨k, mv, rms, hk, rfl, HRS, HPP⟩ := hrel
    by_cases hlt : k < n
    rotate_left
    · have hkn : k = n := by omega
      subst hkn
      go_wp2
      go_ret
      exact ⟨p, rfl, rkN_done (by have := HRS.out.1; omega) HRS.out.2.1 HRS.out.2.2 HPP.out⟩
    have hrl : rms.length = k := HRS.out.1
    have h1 := HPP.out.alloc (.cells #[.int .i64 (k : Int), .int .i64 0, .int .i64 0, .int .i64 0, .int .i64 0, .int .i64 0, .slice none 0 0] 69)
    have h3 := rkN_app (Own.rc_zero' h1)
    have c1 : wr.cell? ⟨p, 0, none⟩ = some mv := ((rkN_open HPP.out).rkb_facts (by simp)).1
    obtain ⟨ad, cp, hmv, _⟩ := Own.rd h3
    subst hmv
    have HAP := Lib.hid h3
    clear h1 h3
    have HRL := Lib.hid hrl
    clear hrl
    go_wp2_with (at_builtin; refine wpList_app rfl _ _ 86 rfl 66 1 8 _ info_rm Tryd.underlying86 rfl (by decide) rfl (HAP.out.alloc' _) rfl (by rfl) (Rd_lit (by simp) (by unfold maxLen; omega)) (by intro u hu; simp at hu; subst hu; rfl) (by have := HRL.out; unfold maxLen; omega) (by have := HRL.out; omega) ?_; intro v' w3 ho3; obtain ⟨ad', cp', hv', _⟩ := Own.rd ho3; subst hv'; have g1 := (ho3.second.rkb_facts (by simp)).1; have g2 := (ho3.second.rkb_facts (by simp)).2.2.2.2.1 0 none; have HW := Lib.hid (rkN_push (r := ⟨wr.heap.size, .slice none 0 0, [], caNew (k : Int)⟩) ho3); clear ho3)
    go_round
    case rel =>
      refine ⟨k + 1, _, _, by omega, by go_num, Lib.hid ⟨by simp [HRL.out], ?_, fun r hr => ?_⟩, HW⟩
      · rw [List.map_append, HRS.out.2.1, List.range_succ, List.map_append]
        rfl
      · rcases List.mem_append.1 hr with hr | hr
        · exact HRS.out.2.2 r hr
        · rw [List.mem_singleton.1 hr]; exact ⟨rfl, rfl⟩
    case measure => simp [intOf]; omega
end Go.Proofs.YtldmdenojpnldaaDoor
