/- Contracts of package cause, continued: the first word of a row of which something is so. -/
import Derived.Test.YtdfjbnfdknpahaaGreatDoorMRunCausal17
import Derived.Test.YtdfjbnfdknpahaaGreatDoorMRunCausal10
namespace Go.Proofs.YtdfjbnfdknpahaaGreatDoor
set_option linter.unusedVariables false
set_option linter.unusedSimpArgs false
open Go.RowKit
def sdV (r : SdR) : Value := .agg #[.int .i64 r.2.who, .int .i64 r.2.word, r.1]
/-- A row's words as every world shows them that owns R. -/
def SdAt (w0 : World) (R : HProp) (sb so : Nat) (rows : List SdR) : Prop := ∀ w', Own w0 R w' → ∀ (k : Nat) (h : k < rows.length), w'.cell? ⟨sb, so + k * 3, none⟩ = some (.int .i64 rows[k].2.who) ∧ w'.cell? ⟨sb, so + k * 3 + 1, none⟩ = some (.int .i64 rows[k].2.word) ∧ w'.cell? ⟨sb, so + k * 3 + 2, none⟩ = some rows[k].1
set_option maxRecDepth 100000 in
set_option maxHeartbeats 4000000 in
theorem sdIx_any {w0 w : World} {R : HProp} (fid : FuncId) (c : Value) (p : SdR → Bool) (sb so cap : Nat) (rows : List SdR) (h : Own w0 R w) (hc1 : rows.length ≤ cap) (hc2 : cap ≤ 9223372036854775807) (ha : SdAt w0 R sb so rows) (hcf : ∀ a w, Sem.run Tryz.prog (callFunc fid a) w = .ok (.enter fid a) w) (hf : ∀ k (_ : k < rows.length) w, Own w0 R w → Calls Tryz.prog fid #[c, sdV rows[k]] w fun e w' => e = .returned (.bool (p rows[k])) ∧ Own w0 R w') :
    Calls Tryz.prog 103 #[.slice (some ⟨sb, so, none⟩) rows.length cap, .func (.func fid) #[c] #[]] w fun e w' => e = .returned (.int .i64 (whereI p rows)) ∧ Own w0 R w' := by
  have H := Lib.hid h; have HA := Lib.hid ha; have HF := Lib.hid hf; have HCF := Lib.hid hcf
  clear h ha hf hcf
  go_enter Tryz.func103, Tryz.ntmps103
  go_wp2_with fail
  go_loopw [8] (fun i wr => ∃ k : Nat, k ≤ rows.length ∧ i = .int .i64 k ∧ Hid (Own w0 R wr) ∧ Hid (∀ j (_ : j < k) (h : j < rows.length), p rows[j] = false)) (fun i _ => rows.length - (intOf i).toNat)
  case atStart => exact ⟨0, Nat.zero_le _, rfl, H, Lib.hid (fun j h => by omega)⟩
  case round =>
    obtain ⟨k, hk, rfl, HO, hp⟩ := hrel
    by_cases hlt : k < rows.length
    rotate_left
    · have hm : whereI p rows = -1 := whereI_miss _ rows (fun j h => hp.out j (by omega) h)
      have HM := Lib.hid hm
      clear hm
      go_wp2
      go_ret
      exact ⟨by rw [HM.out]; rfl, HO.out⟩
    obtain ⟨x0, x1, x2⟩ := HA.out _ HO.out k hlt
    have hfk := HF.out k hlt
    obtain ⟨x, hx⟩ : ∃ x, x = rows[k] := ⟨_, rfl⟩
    rw [← hx] at x0 x1 x2 hfk
    unfold sdV at hfk
    cases hs : p x
    · have hn : ∀ j (_ : j < k + 1) (h : j < rows.length), p rows[j] = false := fun j h1 h2 => by
        by_cases e : j = k
        · subst e; rw [← hx]; exact hs
        · exact hp.out j (by omega) h2
      have HFK := Lib.hid hfk
      clear hfk
      have HN := Lib.hid hn; have HX := Lib.hid hx
      clear hn hx
      go_wp2_with fail
      rw [HCF.out]
      go_wp2_with fail
      refine (HFK.out _ HO.out).mono ?_
      rintro e w' ⟨rfl, ho⟩
      rw [hs]
      have HO2 := Lib.hid ho
      clear ho x0 x1 x2
      go_wp2
      go_round
      case rel => exact ⟨k + 1, by omega, by go_num, HO2, HN⟩
      case measure => simp [intOf]; omega
    · have hm : whereI p rows = k := whereI_hit _ rows k hlt (fun j h => hp.out j h (by omega)) (by rw [← hx]; exact hs)
      have HFK := Lib.hid hfk
      clear hfk
      have HM := Lib.hid hm; have HX := Lib.hid hx
      clear hm hx
      go_wp2_with fail
      rw [HCF.out]
      go_wp2_with fail
      refine (HFK.out _ HO.out).mono ?_
      rintro e w' ⟨rfl, ho⟩
      rw [hs]
      have HO2 := Lib.hid ho
      clear ho x0 x1 x2
      go_wp2
      go_ret
      exact ⟨by rw [HM.out]; rfl, HO2.out⟩
set_option maxRecDepth 100000 in
set_option maxHeartbeats 4000000 in
theorem sdIxC_any {w0 w : World} {R : HProp} (fid : FuncId) (c1 c2 : Value) (p : SdR → Bool) (sb so cap : Nat) (rows : List SdR) (h : Own w0 R w) (hc1 : rows.length ≤ cap) (hc2 : cap ≤ 9223372036854775807) (ha : SdAt w0 R sb so rows) (hcf : ∀ a w, Sem.run Tryz.prog (callFunc fid a) w = .ok (.enter fid a) w) (hf : ∀ k (_ : k < rows.length) w, Own w0 R w → Calls Tryz.prog fid #[sdV rows[k], c1, c2] w fun e w' => e = .returned (.bool (p rows[k])) ∧ Own w0 R w') :
    Calls Tryz.prog 103 #[.slice (some ⟨sb, so, none⟩) rows.length cap, .func (.func fid) #[] #[c1, c2]] w fun e w' => e = .returned (.int .i64 (whereI p rows)) ∧ Own w0 R w' := by
  have H := Lib.hid h; have HA := Lib.hid ha; have HF := Lib.hid hf; have HCF := Lib.hid hcf
  clear h ha hf hcf
  go_enter Tryz.func103, Tryz.ntmps103
  go_wp2_with fail
  go_loopw [8] (fun i wr => ∃ k : Nat, k ≤ rows.length ∧ i = .int .i64 k ∧ Hid (Own w0 R wr) ∧ Hid (∀ j (_ : j < k) (h : j < rows.length), p rows[j] = false)) (fun i _ => rows.length - (intOf i).toNat)
  case atStart => exact ⟨0, Nat.zero_le _, rfl, H, Lib.hid (fun j h => by omega)⟩
  case round =>
    obtain ⟨k, hk, rfl, HO, hp⟩ := hrel
    by_cases hlt : k < rows.length
    rotate_left
    · have hm : whereI p rows = -1 := whereI_miss _ rows (fun j h => hp.out j (by omega) h)
      have HM := Lib.hid hm
      clear hm
      go_wp2
      go_ret
      exact ⟨by rw [HM.out]; rfl, HO.out⟩
    obtain ⟨x0, x1, x2⟩ := HA.out _ HO.out k hlt
    have hfk := HF.out k hlt
    obtain ⟨x, hx⟩ : ∃ x, x = rows[k] := ⟨_, rfl⟩
    rw [← hx] at x0 x1 x2 hfk
    unfold sdV at hfk
    cases hs : p x
    · have hn : ∀ j (_ : j < k + 1) (h : j < rows.length), p rows[j] = false := fun j h1 h2 => by
        by_cases e : j = k
        · subst e; rw [← hx]; exact hs
        · exact hp.out j (by omega) h2
      have HFK := Lib.hid hfk
      clear hfk
      have HN := Lib.hid hn; have HX := Lib.hid hx
      clear hn hx
      go_wp2_with fail
      rw [HCF.out]
      go_wp2_with fail
      refine (HFK.out _ HO.out).mono ?_
      rintro e w' ⟨rfl, ho⟩
      rw [hs]
      have HO2 := Lib.hid ho
      clear ho x0 x1 x2
      go_wp2
      go_round
      case rel => exact ⟨k + 1, by omega, by go_num, HO2, HN⟩
      case measure => simp [intOf]; omega
    · have hm : whereI p rows = k := whereI_hit _ rows k hlt (fun j h => hp.out j h (by omega)) (by rw [← hx]; exact hs)
      have HFK := Lib.hid hfk
      clear hfk
      have HM := Lib.hid hm; have HX := Lib.hid hx
      clear hm hx
      go_wp2_with fail
      rw [HCF.out]
      go_wp2_with fail
      refine (HFK.out _ HO.out).mono ?_
      rintro e w' ⟨rfl, ho⟩
      rw [hs]
      have HO2 := Lib.hid ho
      clear ho x0 x1 x2
      go_wp2
      go_ret
      exact ⟨by rw [HM.out]; rfl, HO2.out⟩
set_option maxRecDepth 100000 in
set_option maxHeartbeats 4000000 in
theorem sdHas_any {w0 w : World} {R : HProp} (fid : FuncId) (c1 c2 : Value) (p : SdR → Bool) (sb so cap : Nat) (rows : List SdR) (h : Own w0 R w) (hc1 : rows.length ≤ cap) (hc2 : cap ≤ 9223372036854775807) (ha : SdAt w0 R sb so rows) (hcf : ∀ a w, Sem.run Tryz.prog (callFunc fid a) w = .ok (.enter fid a) w) (hf : ∀ k (_ : k < rows.length) w, Own w0 R w → Calls Tryz.prog fid #[sdV rows[k], c1, c2] w fun e w' => e = .returned (.bool (p rows[k])) ∧ Own w0 R w') :
    Calls Tryz.prog 119 #[.slice (some ⟨sb, so, none⟩) rows.length cap, .func (.func fid) #[] #[c1, c2]] w fun e w' => e = .returned (.bool (rows.any p)) ∧ Own w0 R w' := by
  have hd : decide ((0 : Int) ≤ whereI p rows) = rows.any p := by rw [Bool.eq_iff_iff]; simpa using whereI_any p rows
  have H := Lib.hid h; have HA := Lib.hid ha; have HF := Lib.hid hf; have HD := Lib.hid hd; have HCF := Lib.hid hcf
  clear h ha hf hd hcf
  go_enter Tryz.func119, Tryz.ntmps119
  go_wp2_with fail
  refine (sdIxC_any fid c1 c2 p sb so cap rows H.out hc1 hc2 HA.out HCF.out HF.out).mono ?_
  rintro e w' ⟨rfl, ho⟩
  have HO2 := Lib.hid ho
  clear ho
  go_wp2
  go_ret
  exact ⟨by rw [← HD.out]; rfl, HO2.out⟩
end Go.Proofs.YtdfjbnfdknpahaaGreatDoor
/- Contracts of package cause, of a member for whom words may wait: what is read, New, Clock, Waits, Say, and what a waiting word is asked. -/
namespace Go.Proofs.YtdfjbnfdknpahaaGreatDoor
set_option linter.unusedVariables false
set_option linter.unusedSimpArgs false
open Go.RowKit
section
variable {w0 w : World} {p mb : Nat} {wv : Value} {rows : List SdR} {c : Ca} {R : HProp}
theorem Own.cw_blk (h : Own w0 (CwO p mb wv rows c * R) w) : Own w0 (cwBlk p mb c.me wv * (IntSl (.slice (some ⟨mb, 0, none⟩) 5 5) c.clk * (Sl 59 3 wv rows.length (rows.flatMap sdCells) * (starL sdRow rows * R)))) w := h.perm (by unfold CwO; ac_rfl)
theorem Own.cw_clk (h : Own w0 (CwO p mb wv rows c * R) w) : Own w0 (IntSl (.slice (some ⟨mb, 0, none⟩) 5 5) c.clk * (cwBlk p mb c.me wv * (Sl 59 3 wv rows.length (rows.flatMap sdCells) * (starL sdRow rows * R)))) w := h.perm (by unfold CwO; ac_rfl)
theorem Own.cw_sl (h : Own w0 (CwO p mb wv rows c * R) w) : Own w0 (Sl 59 3 wv rows.length (rows.flatMap sdCells) * (cwBlk p mb c.me wv * (IntSl (.slice (some ⟨mb, 0, none⟩) 5 5) c.clk * (starL sdRow rows * R)))) w := h.perm (by unfold CwO; ac_rfl)
theorem Own.cw_facts (h5 : c.clk.length = 5) (h : Own w0 (CwO p mb wv rows c * R) w) :
    w.cell? ⟨p, 0, none⟩ = some (.int .i64 c.me) ∧ w.cell? ⟨p, 1, none⟩ = some (.slice (some ⟨mb, 0, none⟩) 5 5) ∧ w.cell? ⟨p, 2, none⟩ = some wv ∧
    (∀ k, k < 5 → w.cell? ⟨mb, k, none⟩ = some (.int .i64 (c.clk.getD k 0))) ∧ (∀ k s, w.frozen? ⟨mb, k, s⟩ = false) ∧ (∀ k s, w.frozen? ⟨p, k, s⟩ = false) := by
  obtain ⟨b, off, cap, e1, _, _, hcell, hfz, _, _, _⟩ := h.cw_clk.ints_at (by omega)
  rw [h5] at e1
  injection e1 with e1 _ e3
  injection e1 with e1
  injection e1 with e1 e2 _
  subst e1; subst e2; subst e3
  refine ⟨(h.cw_blk.cell 0).trans rfl, (h.cw_blk.cell 1).trans rfl, (h.cw_blk.cell 2).trans rfl, fun k hk => ?_, hfz, h.cw_blk.free⟩
  have h3 := hcell k (by omega)
  rw [Nat.zero_add] at h3
  rw [h3, List.getD_eq_getElem?_getD, List.getElem?_eq_getElem (by omega)]; rfl
theorem Own.cw_bump (h5 : c.clk.length = 5) (h : Own w0 (CwO p mb wv rows c * R) w) {k : Nat} (hk : k < 5) (x : Int) : Own w0 (CwO p mb wv rows ⟨c.me, c.clk.set k x, c.waits⟩ * R) (w.setCell ⟨mb, k, none⟩ (.int .i64 x)) := by
  obtain ⟨b, off, cap, e1, _, _, _, _, _, _, hset⟩ := h.cw_clk.ints_at (by omega)
  rw [h5] at e1
  injection e1 with e1 _ e3
  injection e1 with e1
  injection e1 with e1 e2 _
  subst e1; subst e2; subst e3
  have h3 := hset k x (by omega)
  rw [Nat.zero_add] at h3
  exact h3.perm (by unfold CwO; ac_rfl)
theorem Own.cw_shape (h : Own w0 (CwO p mb wv rows c * R) w) : ∃ ad cap, wv = .slice ad rows.length cap ∧ rows.length ≤ cap ∧ cap ≤ 9223372036854775807 := by
  obtain ⟨ad, cap, e, h1, h2, _⟩ := Own.rd h.cw_sl
  exact ⟨ad, cap, e, h1, by simpa [maxLen] using h2⟩
theorem sd_len (l : List SdR) : (l.flatMap sdCells).length = l.length * 3 := cells_len sdCells 3 (fun _ => rfl) l
theorem Own.sdrow_one {Q : HProp} : ∀ {rows : List SdR}, Own w0 (starL sdRow rows * Q) w → ∀ r ∈ rows, r.1.oneCell' = true
  | [], _, r, hr => by cases hr
  | x :: rs, h, r, hr => by
    have h1 : Own w0 (sdRow x * (starL sdRow rs * Q)) w := h.perm (show starL sdRow (x :: rs) * Q = _ from star_assoc _ _ _)
    rcases List.mem_cons.1 hr with rfl | hr
    · obtain ⟨ad, cap, e, _⟩ := Own.rd h1
      rw [e]; rfl
    · exact Own.sdrow_one h1.drop r hr
theorem Own.cw_one (h : Own w0 (CwO p mb wv rows c * R) w) : ∀ u ∈ rows.flatMap sdCells, u.oneCell' = true := by
  intro u hu
  obtain ⟨r, hr, hp⟩ := List.mem_flatMap.1 hu
  have h1 : Own w0 (starL sdRow rows * (cwBlk p mb c.me wv * (IntSl (.slice (some ⟨mb, 0, none⟩) 5 5) c.clk * (Sl 59 3 wv rows.length (rows.flatMap sdCells) * R)))) w := h.perm (by unfold CwO; ac_rfl)
  have h2 := Own.sdrow_one h1 r hr
  simp [sdCells] at hp
  rcases hp with rfl | rfl | rfl
  · rfl
  · rfl
  · exact h2
theorem Own.cw_at (h : Own w0 (CwO p mb wv rows c * R) w) (hl : 0 < rows.length) :
    ∃ b off cap, wv = .slice (some ⟨b, off, none⟩) rows.length cap ∧ rows.length ≤ cap ∧ cap ≤ 9223372036854775807 ∧ SdAt w0 (CwO p mb wv rows c * R) b off rows := by
  obtain ⟨b, off, cap, e, h0⟩ := Own.slAt h.cw_sl (by rw [sd_len]; omega)
  obtain ⟨h1, h2, _⟩ := h0.slAt_facts
  refine ⟨b, off, cap, e, h1, by simpa [maxLen] using h2, fun w' ho k hk => ?_⟩
  obtain ⟨b', off', cap', e', h0'⟩ := Own.slAt ho.cw_sl (by rw [sd_len]; omega)
  rw [e] at e'
  injection e' with e1 _ e3
  injection e1 with e1
  injection e1 with e1 e2 _
  subst e1; subst e2; subst e3
  obtain ⟨_, _, _, hc, _⟩ := h0'.slAt_facts
  refine ⟨?_, ?_, ?_⟩
  · have := cells_get sdCells 3 (fun _ => rfl) rows k 0 hk (by omega)
    exact hc (k * 3) (.int .i64 rows[k].2.who) (by simpa [sdCells] using this)
  · have := cells_get sdCells 3 (fun _ => rfl) rows k 1 hk (by omega)
    have h3 := hc (k * 3 + 1) (.int .i64 rows[k].2.word) (by simpa [sdCells] using this)
    rw [Nat.add_assoc]; exact h3
  · have := cells_get sdCells 3 (fun _ => rfl) rows k 2 hk (by omega)
    have h3 := hc (k * 3 + 2) rows[k].1 (by simpa [sdCells] using this)
    rw [Nat.add_assoc]; exact h3
theorem Own.cw_row (h : Own w0 (CwO p mb wv rows c * R) w) {k : Nat} (hk : k < rows.length) (hv : vecErr rows[k].2.clk = 0) : Ints w rows[k].1 rows[k].2.clk := by
  have h1 : Own w0 (starL sdRow rows * (cwBlk p mb c.me wv * (IntSl (.slice (some ⟨mb, 0, none⟩) 5 5) c.clk * (Sl 59 3 wv rows.length (rows.flatMap sdCells) * R)))) w := h.perm (by unfold CwO; ac_rfl)
  rw [starL_split sdRow rows k hk, star_assoc] at h1
  exact IntSl_reads (vecErr_I64 hv) _ h1
theorem Own.cw_ints (hv : vecErr c.clk = 0) (h : Own w0 (CwO p mb wv rows c * R) w) : Ints w (.slice (some ⟨mb, 0, none⟩) 5 5) c.clk := IntSl_reads (vecErr_I64 hv) _ h.cw_clk
end
set_option maxRecDepth 100000 in
set_option maxHeartbeats 4000000 in
theorem cwNew_no (me : Int) (w : World) (hm : isMember me = false) :
    Calls Tryz.prog 33 #[.int .i64 me] w fun e w' => e = .returned (.tuple #[.pointer none, errV 1]) ∧ w = w' := by
  exact causeNew_no me w hm
set_option maxRecDepth 100000 in
set_option maxHeartbeats 4000000 in
theorem cwNew_yes {w0 w : World} {R : HProp} (me : Int) (hm : isMember me = true) (h : Own w0 R w) :
    Calls Tryz.prog 33 #[.int .i64 me] w fun e w' => ∃ p, e = .returned (.tuple #[.pointer (some ⟨p, 0, none⟩), errV 0]) ∧ Own w0 (CwP p (caNew me) * R) w' := by
  refine (causeNew_yes me hm h).mono ?_
  rintro e w' ⟨p, mb, rfl, ho⟩
  refine ⟨p, rfl, Own.cw_close (mb := mb) (wv := .slice none 0 0) (rows := []) rfl ?_⟩
  refine ho.perm ?_
  unfold CwO CaP caNew
  rw [List.length_nil, List.flatMap_nil, Sl_nil, show starL sdRow [] = emp from rfl, star_emp, star_emp]
  rfl
set_option maxRecDepth 100000 in
set_option maxHeartbeats 4000000 in
theorem cwSay_any {w0 w : World} {R : HProp} (p : Nat) (c : Ca) (word : Int) (hI : CaI c) (h : Own w0 (CwP p c * R) w) :
    Calls Tryz.prog 75 #[.pointer (some ⟨p, 0, none⟩), .int .i64 word] w fun e w' => ∃ v', e = .returned (.tuple #[.agg #[.int .i64 (caSaid c word).who, .int .i64 (caSaid c word).word, v'], errV (caSayErr c word)]) ∧ Own w0 (IntSl v' (caSaid c word).clk * (CwP p (caSay c word) * R)) w' := by
  obtain ⟨q, hq⟩ : ∃ q : Nat, c.me = (q : Int) := ⟨c.me.toNat, by have := hI.me; simp [isMember] at this; omega⟩
  have hq5 : q < 5 := by have := hI.me; simp [isMember] at this; omega
  have h5 := (vecErr0 hI.clk).1
  obtain ⟨y, hy⟩ : ∃ y, y = c.clk.getD q 0 := ⟨_, rfl⟩
  have hyb := vec_get hI.clk q
  rw [← hy] at hyb
  have hat : caAt c.clk c.me = y := by unfold caAt; rw [hq, Int.toNat_natCast, hy]
  obtain ⟨y0, y1⟩ := hyb
  obtain ⟨b1, hb_b1⟩ : ∃ zz_, zz_ = (w).heap.size := ⟨_, rfl⟩
  obtain ⟨w1, hw_w1⟩ : ∃ zz_, zz_ = (w).alloc (.cells #[.int .i64 0, .int .i64 0, .slice none 0 0] 59 (0, 0)) := ⟨_, rfl⟩
  have h_HO := (h).alloc (.cells #[.int .i64 0, .int .i64 0, .slice none 0 0] 59 (0, 0))
  rw [← hb_b1, ← hw_w1] at h_HO
  have HO := Lib.hid h_HO
  clear h_HO
  have HO1 : Hid (Own w0 (CwP p c * (SdO b1 0 0 (.slice none 0 0) * R)) w1) := Lib.hid (HO.out.perm (star_left_comm _ _ _))
  obtain ⟨z0, z1, z2, zf⟩ := (show Own w0 (SdO b1 0 0 (.slice none 0 0) * (CwP p c * R)) w1 from HO.out).sd
  have zf0 := zf 0 none
  have zf1 := zf 1 none
  have zf2 := zf 2 none
  have hbad := (show Own w0 (SdO b1 0 0 (.slice none 0 0) * (CwP p c * R)) w1 from HO.out).sd_put 0 0 (.slice none 0 0)
  clear zf
  cases hw : isWord word
  · have hE : caSayErr c word = 1 := by unfold caSayErr; rw [if_pos hw]
    have hS : caSay c word = c := by unfold caSay; rw [hE]; rfl
    have hT : caSaid c word = ⟨0, 0, []⟩ := by unfold caSaid; rw [hE]; rfl
    rw [hE, hS, hT]
    obtain ⟨p0, p1, p2, _⟩ := hbad.sd
    have HB := Lib.hid (hbad.drop.sl_nil 3 1)
    have HE := Lib.hid hE; have HS := Lib.hid hS; have HT := Lib.hid hT; have HI := Lib.hid hI; have HQ := Lib.hid hq; have HY := Lib.hid hy; have HAT := Lib.hid hat; have HW := Lib.hid hw; have H5 := Lib.hid h5
    clear hE hS hT hI hq hy hat hw h5
    clear hbad
    go_enter Tryz.func75, Tryz.ntmps75
    go_upto_region 1 with fail
    rw [← hb_b1, ← hw_w1]
    clear hb_b1 hw_w1
    go_wp2_with fail
    refine (word_any _ _).mono ?_
    rintro e w' ⟨rfl, rfl⟩
    rw [HW.out]
    go_wp2_with fail
    exact bodyPost_ret (v := .tuple #[.agg #[.int .i64 0, .int .i64 0, .slice none 0 0], errV 1]) (by simp [results, Tryz.results75, go_sem, p0, p1, p2, errV]) rfl ⟨_, rfl, HB.out⟩
  obtain ⟨mb, wv, rows, he, ho⟩ := HO1.out.cw_open
  obtain ⟨c0, c1, c2, hc, hf, _⟩ := ho.cw_facts h5
  have d0 := hc q hq5
  rw [← hy] at d0
  have q0 : (0 : Int) ≤ (q : Int) := by omega
  have q5 : (q : Int) < 5 := by omega
  rw [hq] at c0
  by_cases hy1 : y = 1000000
  · have hE : caSayErr c word = 4 := by unfold caSayErr; rw [if_neg (by rw [hw]; simp), hat, if_pos hy1]
    have hS : caSay c word = c := by unfold caSay; rw [hE]; rfl
    have hT : caSaid c word = ⟨0, 0, []⟩ := by unfold caSaid; rw [hE]; rfl
    have t1 : (y == 1000000) = true := by rw [beq_iff_eq]; exact hy1
    rw [hE, hS, hT]
    obtain ⟨p0, p1, p2, _⟩ := hbad.drew.sd
    have HB := Lib.hid (hbad.drew.drop.sl_nil 3 1)
    have HE := Lib.hid hE; have HS := Lib.hid hS; have HT := Lib.hid hT; have HI := Lib.hid hI; have HQ := Lib.hid hq; have HY := Lib.hid hy; have HAT := Lib.hid hat; have HW := Lib.hid hw; have H5 := Lib.hid h5; have HO := Lib.hid ho; have HE := Lib.hid he; have HY1 := Lib.hid hy1
    clear hE hS hT hI hq hy hat hw h5 ho he hy1
    clear hbad hc hf
    go_enter Tryz.func75, Tryz.ntmps75
    go_upto_region 1 with fail
    rw [← hb_b1, ← hw_w1]
    clear hb_b1 hw_w1
    go_wp2_with fail
    refine (word_any _ _).mono ?_
    rintro e w' ⟨rfl, rfl⟩
    rw [HW.out]
    go_upto_region 3 with fail
    refine wp_region_tail 11 (by kernel_rfl) (by kernel_rfl) ?_
    simp only [List.take_succ_cons, List.take_zero, List.drop_succ_cons, List.drop_zero]
    repeat still_step
    refine wpStill_nil ?_
    go_wp2_with fail
    exact bodyPost_ret (v := .tuple #[.agg #[.int .i64 0, .int .i64 0, .slice none 0 0], errV 4]) (by simp [results, Tryz.results75, go_sem, p0, p1, p2, errV]) rfl ⟨_, rfl, HB.out⟩
  have hE : caSayErr c word = 0 := by unfold caSayErr; rw [if_neg (by rw [hw]; simp), hat, if_neg hy1]
  have hS : caSay c word = ⟨c.me, c.clk.set q (y + 1), c.waits⟩ := by unfold caSay caBump; rw [hE, hat, hq, Int.toNat_natCast]; rfl
  have hT : caSaid c word = ⟨q, word, c.clk.set q (y + 1)⟩ := by unfold caSaid caBump; rw [hE, hat, hq, Int.toNat_natCast]; rfl
  have hIs := hI.say word
  rw [hS] at hIs
  have t1 : (y == 1000000) = false := by rw [beq_eq_false_iff_ne]; exact hy1
  have s0 := ho.cw_bump h5 hq5 (y + 1)
  have f0 := hf q none
  obtain ⟨D, hD⟩ : ∃ D, D = c.clk.set q (y + 1) := ⟨_, rfl⟩
  obtain ⟨w2, hw2⟩ : ∃ w2, w2 = w1.setCell ⟨mb, q, none⟩ (.int .i64 (y + 1)) := ⟨_, rfl⟩
  rw [← hw2, ← hD] at s0
  rw [← hD] at hS hT hIs
  rw [hE, hS, hT]
  have hDv : vecErr D = 0 := hIs.clk
  have hD5 := (vecErr0 hDv).1
  have HO2 := Lib.hid s0
  clear HO hc hf s0 hbad z0 z1 z2 zf0 zf1 zf2
  have HQ := Lib.hid hq
  clear hq
  have HE_ := Lib.hid he
  clear he
  have HE := Lib.hid hE; have HS := Lib.hid hS; have HT := Lib.hid hT; have HI := Lib.hid hI; have HY := Lib.hid hy; have HAT := Lib.hid hat; have HW := Lib.hid hw; have H5 := Lib.hid h5; have HO := Lib.hid ho; have HY1 := Lib.hid hy1; have HIS := Lib.hid hIs; have HD := Lib.hid hD; have HDV := Lib.hid hDv; have HD5 := Lib.hid hD5
  clear hE hS hT hI hy hat hw h5 ho hy1 hIs hD hDv hD5
  go_enter Tryz.func75, Tryz.ntmps75
  go_upto_region 1 with fail
  rw [← hb_b1, ← hw_w1]
  clear hb_b1 hw_w1
  go_wp2_with fail
  refine (word_any _ _).mono ?_
  rintro e w' ⟨rfl, rfl⟩
  rw [HW.out]
  go_upto_region 3 with fail
  refine wp_region_tail 11 (by kernel_rfl) (by kernel_rfl) ?_
  simp only [List.take_succ_cons, List.take_zero, List.drop_succ_cons, List.drop_zero]
  repeat still_step
  refine wpStill_nil ?_
  go_upto_region 5 with fail
  refine wp_region_tail 11 (by kernel_rfl) (by kernel_rfl) ?_
  simp only [List.take_succ_cons, List.take_zero, List.drop_succ_cons, List.drop_zero]
  repeat still_step
  refine wpStill_nil ?_
  go_upto_region 6 with fail
  rw [← hw2]
  clear d0 c0 c1 c2 f0 hw2 t1
  have HO3 := Lib.hid HO2.out.drew.drew.drew
  obtain ⟨c0, c1, _, _, _, _⟩ := HO2.out.cw_facts HD5.out
  rw [show (Ca.mk c.me D c.waits).me = (q : Int) from HQ.out] at c0
  refine wp_region_planH 11 [] [(true, 0), (true, 1), (true, 2), (true, 3), (true, 4), (true, 5), (true, 6), (true, 7), (true, 8), (false, 9), (true, 10)] [11, 12] (fun wS => (wS.cell? ⟨p, 0, none⟩ = some (.int .i64 q) ∧ wS.cell? ⟨p, 1, none⟩ = some (.slice (some ⟨mb, 0, none⟩) 5 5))) (by kernel_rfl) (by kernel_rfl) (⟨c0, c1⟩) ?_
  simp only [pickH, pick, List.getElem?_cons_succ, List.getElem?_cons_zero, Option.toList, Option.map_some, List.cons_append, List.nil_append]
  repeat (refine wpPure_step ?_ rfl ?_ ?_; rotate_left; (focus (intro _; first | with_reducible rfl | (go_simp; done) | (go_simp; with_reducible rfl) | rfl)); go_simp)
  refine wpPure_nil ?_
  repeat (refine wpMix_read ?_ rfl ?_ ?_; rotate_left; (focus (intro _ hS; obtain ⟨s1, s2⟩ := hS; first | with_reducible rfl | (go_simp; done) | (go_simp; with_reducible rfl) | rfl)); go_simp)
  refine wpMix_write (fun K hK => ?_)
  go_simp
  refine (cloneInts_any HO3.out _ D (HO3.out.cw_ints HDV.out) (by rw [HD5.out]; omega)).mono ?_
  rintro e w4 ⟨v4, rfl, ho⟩
  obtain ⟨x1, x2, x3, x4⟩ := (ho.perm (show _ = SdO b1 0 0 (.slice none 0 0) * (CwO p mb wv rows ⟨c.me, D, c.waits⟩ * (IntSl v4 D * R)) by ac_rfl)).sd
  have x40 := x4 0 none
  have x41 := x4 1 none
  have x42 := x4 2 none
  obtain ⟨ad4, cap4, hv4, _⟩ := Own.rd ho
  subst hv4
  have hput := (ho.perm (show _ = SdO b1 0 0 (.slice none 0 0) * (CwO p mb wv rows ⟨c.me, D, c.waits⟩ * (IntSl (.slice ad4 D.length cap4) D * R)) by ac_rfl)).sd_put (q : Int) word (.slice ad4 D.length cap4)
  obtain ⟨p0, p1, p2, _⟩ := hput.sd
  have HPUT := Lib.hid ((Own.cw_close (c := ⟨c.me, D, c.waits⟩) HE_.out hput.drop).perm (star_left_comm _ _ _))
  obtain ⟨k0, k1, _, _, _, _⟩ := (ho.perm (star_left_comm _ _ _)).cw_facts HD5.out
  rw [show (Ca.mk c.me D c.waits).me = (q : Int) from HQ.out] at k0
  clear ho hput x4 c0 c1
  refine hK _ _ ⟨⟨k0, k1⟩, ?_⟩
  clear hK K
  go_simp
  repeat (refine wpMix_read ?_ rfl ?_ ?_; rotate_left; (focus (intro _ hS; obtain ⟨s1, s2⟩ := hS; first | with_reducible rfl | (go_simp; done) | (go_simp; with_reducible rfl) | rfl)); go_simp)
  refine wpMix_nil ?_
  go_wp2_with fail
  refine NoPanic.normal ?_
  go_wp2_with fail
  exact bodyPost_ret (v := .tuple #[.agg #[.int .i64 q, .int .i64 word, .slice ad4 D.length cap4], .nilIface]) (by simp [results, Tryz.results75, go_sem, p0, p1, p2]) rfl ⟨_, rfl, HPUT.out⟩
end Go.Proofs.YtdfjbnfdknpahaaGreatDoor
