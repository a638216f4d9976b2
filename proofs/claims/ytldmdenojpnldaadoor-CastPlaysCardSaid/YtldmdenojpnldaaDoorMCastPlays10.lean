/- The reference's Cause: what it is in memory; ready, List, Say. -/
import Derived.Test.YtldmdenojpnldaaDoorMCastPlays9
import Derived.Test.YtldmdenojpnldaaDoorMCastPlays4
namespace Go.Proofs.YtldmdenojpnldaaDoor
set_option linter.unusedVariables false
set_option linter.unusedSimpArgs false
open Go.RowKit
def rcCells (me : Int) (clk : List Int) (v : Value) : List Value := .int .i64 me :: (clk.map (Value.int .i64) ++ [v])
abbrev rcBlk (p : Nat) (me : Int) (clk : List Int) (v : Value) : HProp := blk p (.cells (rcCells me clk v).toArray 69 (0, 0))
def RcO (p : Nat) (v : Value) (rows : List SdR) (me : Int) (clk : List Int) : HProp := rcBlk p me clk v * Sl 56 3 v rows.length (rows.flatMap sdCells)
theorem rcc_at {me : Int} {clk : List Int} {v : Value} (h5 : clk.length = 5) {k : Nat} (hk : k < 5) : (rcCells me clk v)[1 + k]? = some (.int .i64 (clk.getD k 0)) := by
  unfold rcCells
  rw [Nat.add_comm, List.getElem?_cons_succ, List.getElem?_append_left (by simp; omega), List.getElem?_map, List.getElem?_eq_getElem (by omega), List.getD_eq_getElem?_getD, List.getElem?_eq_getElem (by omega)]; rfl
theorem rcc_last {me : Int} {clk : List Int} {v : Value} (h5 : clk.length = 5) : (rcCells me clk v)[6]? = some v := by
  unfold rcCells
  rw [List.getElem?_cons_succ, List.getElem?_append_right (by simp; omega)]; simp [h5]
theorem rcc_set {me : Int} {clk : List Int} {v : Value} (h5 : clk.length = 5) {k : Nat} (hk : k < 5) (x : Int) : (rcCells me clk v).set (1 + k) (.int .i64 x) = rcCells me (clk.set k x) v := by
  unfold rcCells
  rw [Nat.add_comm, List.set_cons_succ, List.set_append_left _ _ (by simp; omega), List.map_set]
theorem rcc_put {me : Int} {clk : List Int} {v v' : Value} (h5 : clk.length = 5) : (rcCells me clk v).set 6 v' = rcCells me clk v' := by
  unfold rcCells
  rw [List.set_cons_succ, List.set_append_right _ _ (by simp; omega)]; simp [h5]
section
variable {w0 w : World} {p : Nat} {v : Value} {rows : List SdR} {me : Int} {clk : List Int} {R : HProp}
theorem Own.rcb_facts (h5 : clk.length = 5) (h : Own w0 (rcBlk p me clk v * R) w) :
    w.cell? ⟨p, 0, none⟩ = some (.int .i64 me) ∧ (∀ k, k < 5 → w.cell? ⟨p, 1 + k, none⟩ = some (.int .i64 (clk.getD k 0))) ∧ w.cell? ⟨p, 6, none⟩ = some v ∧ (∀ k s, w.frozen? ⟨p, k, s⟩ = false) := by
  refine ⟨?_, fun k hk => ?_, ?_, fun k s => Own.free h k s⟩
  · rw [Own.cell h]; rfl
  · rw [Own.cell h, List.getElem?_toArray]; exact rcc_at h5 hk
  · rw [Own.cell h, List.getElem?_toArray]; exact rcc_last h5
theorem Own.rcb_bump (h5 : clk.length = 5) {k : Nat} (hk : k < 5) (x : Int) (h : Own w0 (rcBlk p me clk v * R) w) : Own w0 (rcBlk p me (clk.set k x) v * R) (w.setCell ⟨p, 1 + k, none⟩ (.int .i64 x)) := by
  have h1 := Own.setCell (i := 1 + k) (v := .int .i64 x) h
  rw [List.setIfInBounds_toArray, rcc_set h5 hk] at h1
  exact h1
theorem Own.rcb_put (h5 : clk.length = 5) (v' : Value) (h : Own w0 (rcBlk p me clk v * R) w) : Own w0 (rcBlk p me clk v' * R) (w.setCell ⟨p, 6, none⟩ v') := by
  have h1 := Own.setCell (i := 6) (v := v') h
  rw [List.setIfInBounds_toArray, rcc_put h5] at h1
  exact h1
theorem Own.rc_blk (h : Own w0 (RcO p v rows me clk * R) w) : Own w0 (rcBlk p me clk v * (Sl 56 3 v rows.length (rows.flatMap sdCells) * R)) w := h.perm (by unfold RcO; ac_rfl)
theorem Own.rc_sl (h : Own w0 (RcO p v rows me clk * R) w) : Own w0 (Sl 56 3 v rows.length (rows.flatMap sdCells) * (rcBlk p me clk v * R)) w := h.perm (by unfold RcO; ac_rfl)
theorem Own.rc_mk (h : Own w0 (rcBlk p me clk v * (Sl 56 3 v rows.length (rows.flatMap sdCells) * R)) w) : Own w0 (RcO p v rows me clk * R) w := h.perm (by unfold RcO; ac_rfl)
theorem Own.rc_shape (h : Own w0 (RcO p v rows me clk * R) w) : ∃ ad cap, v = .slice ad rows.length cap ∧ rows.length ≤ cap ∧ cap ≤ 9223372036854775807 := by
  obtain ⟨ad, cap, e, h1, h2, _⟩ := Own.rd h.rc_sl
  exact ⟨ad, cap, e, h1, by simpa [maxLen] using h2⟩
theorem Own.rc_at (h : Own w0 (RcO p v rows me clk * R) w) (hl : 0 < rows.length) :
    ∃ b off cap, v = .slice (some ⟨b, off, none⟩) rows.length cap ∧ rows.length ≤ cap ∧ cap ≤ 9223372036854775807 ∧ ∀ (k : Nat) (h : k < rows.length), w.cell? ⟨b, off + k * 3, none⟩ = some (.int .i64 rows[k].2.who) ∧ w.cell? ⟨b, off + k * 3 + 1, none⟩ = some (.int .i64 rows[k].2.word) ∧ w.cell? ⟨b, off + k * 3 + 2, none⟩ = some rows[k].1 := by
  obtain ⟨b, off, cap, e, h0⟩ := Own.slAt h.rc_sl (by rw [sd_len]; omega)
  obtain ⟨h1, h2, _, hc, _⟩ := h0.slAt_facts
  refine ⟨b, off, cap, e, h1, by simpa [maxLen] using h2, fun k hk => ⟨?_, ?_, ?_⟩⟩
  · have := cells_get sdCells 3 (fun _ => rfl) rows k 0 hk (by omega)
    exact hc (k * 3) (.int .i64 rows[k].2.who) (by simpa [sdCells] using this)
  · have := cells_get sdCells 3 (fun _ => rfl) rows k 1 hk (by omega)
    have h3 := hc (k * 3 + 1) (.int .i64 rows[k].2.word) (by simpa [sdCells] using this)
    rw [Nat.add_assoc]; exact h3
  · have := cells_get sdCells 3 (fun _ => rfl) rows k 2 hk (by omega)
    have h3 := hc (k * 3 + 2) rows[k].1 (by simpa [sdCells] using this)
    rw [Nat.add_assoc]; exact h3
end
set_option maxRecDepth 100000 in
set_option maxHeartbeats 4000000 in
theorem rcReady_any {w0 w : World} {R : HProp} (p : Nat) (clk : List Int) (s : Sd) (cv : Value) (hs : s.clk.length = 5) (hb : ∀ i, i < 5 → 0 ≤ clk.getD i 0 ∧ clk.getD i 0 ≤ 1000000) (hF : ∀ w', Own w0 R w' → (∀ i, i < 5 → w'.cell? ⟨p, 1 + i, none⟩ = some (.int .i64 (clk.getD i 0))) ∧ Ints w' cv s.clk) (h : Own w0 R w) :
    Calls Tryd.prog 71 #[.pointer (some ⟨p, 0, none⟩), .agg #[.int .i64 s.who, .int .i64 s.word, cv]] w fun e w' => e = .returned (.bool (caReady clk s)) ∧ Own w0 R w' := by
  obtain ⟨vad, vcap, hcv, hvc1, hvc2⟩ := (hF _ h).2.shape
  subst hcv
  obtain ⟨q, hq⟩ : ∃ q, q = s.who := ⟨_, rfl⟩
  rw [hs] at hvc1 hF ⊢
  rw [← hq]
  obtain ⟨b1, hb_b1⟩ : ∃ zz_, zz_ = (w).heap.size := ⟨_, rfl⟩
  obtain ⟨w1, hw_w1⟩ : ∃ zz_, zz_ = (w).alloc (.cells #[.int .i64 q, .int .i64 s.word, .slice vad 5 vcap] 56 (0, 0)) := ⟨_, rfl⟩
  have h_HO := (h).alloc (.cells #[.int .i64 q, .int .i64 s.word, .slice vad 5 vcap] 56 (0, 0))
  rw [← hb_b1, ← hw_w1] at h_HO
  have HO := Lib.hid h_HO
  clear h_HO
  have HB1 := Lib.hid HO.out
  clear HO
  have H := Lib.hid h; have HF := Lib.hid hF; have HB := Lib.hid hb; have HQ := Lib.hid hq; have HS := Lib.hid hs
  clear h hF hb hq hs
  go_enter Tryd.func71, Tryd.ntmps71
  go_upto_region 1 with fail
  rw [← hb_b1, ← hw_w1]
  clear hb_b1 hw_w1
  go_wp2_with fail
  go_loopw [5] (fun iv wr => ∃ i : Nat, i ≤ 5 ∧ iv = .int .i64 i ∧ Hid (∀ j, j < i → caOk1 clk s j = true) ∧ Hid (Own w0 (blk b1 (.cells #[.int .i64 q, .int .i64 s.word, .slice vad 5 vcap] 56 (0, 0)) * R) wr)) (fun iv _ => 5 - (intOf iv).toNat)
  case atStart => exact ⟨0, Nat.zero_le _, rfl, Lib.hid (fun j hj => absurd hj (by omega)), HB1⟩
  case round =>
    clear HB1
    obtain ⟨i, hi, rfl, HJ, HO⟩ := hrel
    have x0 := (HO.out.cell 0).trans rfl
    have x2 := (HO.out.cell 2).trans rfl
    obtain ⟨hc, hvv⟩ := HF.out _ HO.out.drop
    by_cases hlt : i < 5
    rotate_left
    · have hall : caReady clk s = true := caReady_yes (fun j hj => HJ.out j (by omega))
      have HALL := Lib.hid hall; have HC := Lib.hid hc; have HVV := Lib.hid hvv
      clear hall hc hvv
      go_wp2
      go_ret
      exact ⟨(show _ = Ending.returned (.bool true) from rfl).trans (by rw [HALL.out]), HO.out.drop⟩
    obtain ⟨aa, rfl, hca⟩ := hvv.at i (by rw [HS.out]; exact hlt)
    obtain ⟨z, hz⟩ : ∃ z, z = s.clk[i]'(by rw [HS.out]; exact hlt) := ⟨_, rfl⟩
    rw [← hz] at hca
    have hzg : s.clk.getD i 0 = z := by rw [hz, List.getD_eq_getElem?_getD, List.getElem?_eq_getElem (by rw [HS.out]; exact hlt)]; rfl
    have d := hc i hlt
    obtain ⟨y0, y1⟩ := HB.out i hlt
    obtain ⟨y, hy⟩ : ∃ y, y = clk.getD i 0 := ⟨_, rfl⟩
    rw [← hy] at d y0 y1
    have i0 : (0 : Int) ≤ (i : Int) := Int.natCast_nonneg i
    have i5 : (i : Int) < 5 := by omega
    obtain ⟨B, hB⟩ : ∃ B, B = caOk1 clk s i := ⟨_, rfl⟩
    have hB2 := hB
    unfold caOk1 at hB2
    rw [hzg, ← hy, ← HQ.out] at hB2
    clear hc hvv
    by_cases hiq : (i : Int) = q
    · rw [if_pos hiq] at hB2
      have t1 : ((i : Int) == q) = true := by rw [beq_iff_eq]; exact hiq
      cases B
      · have t3 : (z != y + 1) = true := by rw [bne_iff_ne]; exact of_decide_eq_false hB2.symm
        have hno := caReady_no (s := s) (clk := clk) hlt hB.symm
        have HZ := Lib.hid hz; have HZG := Lib.hid hzg; have HY := Lib.hid hy; have HB := Lib.hid hB; have HB2 := Lib.hid hB2; have HIQ := Lib.hid hiq; have HNO := Lib.hid hno
        clear hz hzg hy hB hB2 hiq hno
        go_wp2_with fail
        go_quiet (fail)
        go_wp2
        go_ret
        exact ⟨(show _ = Ending.returned (.bool false) from rfl).trans (by rw [HNO.out]), (HO.out.drewN _).drop⟩
      · have t3 : (z != y + 1) = false := by rw [bne_eq_false_iff_eq]; exact of_decide_eq_true hB2.symm
        have hn : ∀ j, j < i + 1 → caOk1 clk s j = true := fun j hj => by
          rcases Nat.lt_succ_iff_lt_or_eq.1 hj with h | h
          · exact HJ.out j h
          · rw [h]; exact hB.symm
        have HZ := Lib.hid hz; have HZG := Lib.hid hzg; have HY := Lib.hid hy; have HB := Lib.hid hB; have HB2 := Lib.hid hB2; have HIQ := Lib.hid hiq; have HN := Lib.hid hn
        clear hz hzg hy hB hB2 hiq hn
        go_wp2_with fail
        go_quiet (fail)
        go_wp2
        go_round
        case rel => exact ⟨i + 1, by omega, by go_num, HN, Lib.hid (HO.out.drewN _)⟩
        case measure => simp [intOf]; omega
    · rw [if_neg hiq] at hB2
      have t1 : ((i : Int) == q) = false := by rw [beq_eq_false_iff_ne]; exact hiq
      cases B
      · have t3 : decide (y < z) = true := by have := of_decide_eq_false hB2.symm; simp; omega
        have hno := caReady_no (s := s) (clk := clk) hlt hB.symm
        have HZ := Lib.hid hz; have HZG := Lib.hid hzg; have HY := Lib.hid hy; have HB := Lib.hid hB; have HB2 := Lib.hid hB2; have HIQ := Lib.hid hiq; have HNO := Lib.hid hno
        clear hz hzg hy hB hB2 hiq hno
        go_wp2_with fail
        go_quiet (fail)
        go_wp2
        go_ret
        exact ⟨(show _ = Ending.returned (.bool false) from rfl).trans (by rw [HNO.out]), (HO.out.drewN _).drop⟩
      · have t3 : decide (y < z) = false := by have := of_decide_eq_true hB2.symm; simp; omega
        have hn : ∀ j, j < i + 1 → caOk1 clk s j = true := fun j hj => by
          rcases Nat.lt_succ_iff_lt_or_eq.1 hj with h | h
          · exact HJ.out j h
          · rw [h]; exact hB.symm
        have HZ := Lib.hid hz; have HZG := Lib.hid hzg; have HY := Lib.hid hy; have HB := Lib.hid hB; have HB2 := Lib.hid hB2; have HIQ := Lib.hid hiq; have HN := Lib.hid hn
        clear hz hzg hy hB hB2 hiq hn
        go_wp2_with fail
        go_quiet (fail)
        go_wp2
        go_round
        case rel => exact ⟨i + 1, by omega, by go_num, HN, Lib.hid (HO.out.drewN _)⟩
        case measure => simp [intOf]; omega
theorem take_snoc5 {l : List Int} {k : Nat} (h5 : l.length = 5) (hk : k < 5) : l.take (k + 1) = l.take k ++ [l.getD k 0] := by
  rw [List.take_succ_eq_append_getElem (by omega), List.getD_eq_getElem?_getD, List.getElem?_eq_getElem (by omega)]; rfl
set_option maxRecDepth 100000 in
set_option maxHeartbeats 4000000 in
theorem rcList_any {w0 w : World} {R : HProp} (p : Nat) (clk : List Int) (h5 : clk.length = 5) (hF : ∀ w', Own w0 R w' → ∀ i, i < 5 → w'.cell? ⟨p, 1 + i, none⟩ = some (.int .i64 (clk.getD i 0))) (h : Own w0 R w) :
    Calls Tryd.prog 35 #[.pointer (some ⟨p, 0, none⟩)] w fun e w' => ∃ v', e = .returned v' ∧ Own w0 (IntSl v' clk * R) w' := by
  have H := Lib.hid h; have HF := Lib.hid hF; have H5 := Lib.hid h5
  clear h hF h5
  go_enter Tryd.func35, Tryd.ntmps35
  go_wp2_with fail
  go_loopw [3, 4] (fun ov iv wr => ∃ i : Nat, i ≤ 5 ∧ iv = .int .i64 i ∧ Hid (Own w0 (IntSl ov (clk.take i) * R) wr)) (fun _ iv _ => 5 - (intOf iv).toNat)
  case atStart => exact ⟨0, Nat.zero_le _, rfl, Lib.hid (H.out.sl_nil 3 1)⟩
  case round =>
    obtain ⟨i, hi, rfl, HO⟩ := hrel
    by_cases hlt : i < 5
    rotate_left
    · go_wp2
      go_ret
      have := HO.out
      rw [List.take_of_length_le (by rw [H5.out]; omega)] at this
      exact ⟨_, rfl, this⟩
    have d := HF.out _ HO.out.drop i hlt
    have hsn := take_snoc5 H5.out hlt
    obtain ⟨y, hy⟩ : ∃ y, y = clk.getD i 0 := ⟨_, rfl⟩
    rw [← hy] at d hsn
    have htl : (clk.take i).length ≤ 5 := by rw [List.length_take]; omega
    have fin : ∀ (v' : Value) (w' : World), Own w0 (Sl 3 1 v' ((clk.take i).length + 1) ((clk.take i).map (Value.int .i64) ++ [Value.int .i64 y]) * R) w' → Own w0 (IntSl v' (clk.take (i + 1)) * R) w' := fun v' w' h => by
      rw [hsn]
      unfold IntSl
      rw [List.map_append, List.length_append]
      exact h
    have i0 : (0 : Int) ≤ (i : Int) := by omega
    have i5 : (i : Int) < 5 := by omega
    have FIN := Lib.hid fin; have HY := Lib.hid hy; have HSN := Lib.hid hsn
    clear fin hy hsn
    go_wp2_with (at_builtin; refine wpList_app rfl _ _ 36 rfl 3 1 8 _ info_int Tryd.underlying36 rfl (by decide) rfl ((HO.out.alloc' _)) rfl (by rfl) (Rd_lit (by simp) (by unfold maxLen; omega)) (by intro u hu; simp at hu; subst hu; rfl) (by unfold maxLen; omega) (by omega) ?_; intro v' w' hown; have HN := Lib.hid hown; clear hown)
    go_wp2_with fail
    go_roundw
    case rel => exact ⟨i + 1, by omega, by go_num, Lib.hid (FIN.out _ _ HN.out)⟩
    case measure => simp [intOf]; omega
set_option maxRecDepth 100000 in
set_option maxHeartbeats 4000000 in
theorem rcSay_any {w0 w : World} {R : HProp} (p : Nat) (c : Ca) (v : Value) (word : Int) (hI : CaI c) (h : Own w0 (rcBlk p c.me c.clk v * R) w) :
    Calls Tryd.prog 30 #[.pointer (some ⟨p, 0, none⟩), .int .i64 word] w fun e w' => ∃ v', e = .returned (.tuple #[.agg #[.int .i64 (caSaid c word).who, .int .i64 (caSaid c word).word, v'], .int .i64 (caSayErr c word : Nat)]) ∧ Own w0 (IntSl v' (caSaid c word).clk * (rcBlk p (caSay c word).me (caSay c word).clk v * R)) w' := by
  obtain ⟨q, hq⟩ : ∃ q : Nat, c.me = (q : Int) := ⟨c.me.toNat, by have := hI.me; simp [isMember] at this; omega⟩
  have hq5 : q < 5 := by have := hI.me; simp [isMember] at this; omega
  have h5 := (vecErr0 hI.clk).1
  obtain ⟨y, hy⟩ : ∃ y, y = c.clk.getD q 0 := ⟨_, rfl⟩
  have hyb := vec_get hI.clk q
  rw [← hy] at hyb
  have hat : caAt c.clk c.me = y := by unfold caAt; rw [hq, Int.toNat_natCast, hy]
  obtain ⟨y0, y1⟩ := hyb
  obtain ⟨b1, hb_b1⟩ : ∃ zz_, zz_ = (w).heap.size := ⟨_, rfl⟩
  obtain ⟨w1, hw_w1⟩ : ∃ zz_, zz_ = (w).alloc (.cells #[.int .i64 0, .int .i64 0, .slice none 0 0] 56 (0, 0)) := ⟨_, rfl⟩
  have h_HO := (h).alloc (.cells #[.int .i64 0, .int .i64 0, .slice none 0 0] 56 (0, 0))
  rw [← hb_b1, ← hw_w1] at h_HO
  have HO := Lib.hid h_HO
  clear h_HO
  have HO1 : Hid (Own w0 (rcBlk p c.me c.clk v * (SdO b1 0 0 (.slice none 0 0) * R)) w1) := Lib.hid (HO.out.perm (star_left_comm _ _ _))
  have hz : Own w0 (SdO b1 0 0 (.slice none 0 0) * (rcBlk p c.me c.clk v * R)) w1 := HO.out
  obtain ⟨z0, z1, z2, zf⟩ := hz.sd
  have zf0 := zf 0 none
  have zf1 := zf 1 none
  have zf2 := zf 2 none
  have hbad := hz.sd_put 0 0 (.slice none 0 0)
  clear zf hz
  cases hw : isWord word
  · have hE : caSayErr c word = 1 := by unfold caSayErr; rw [if_pos hw]
    have hS : caSay c word = c := by unfold caSay; rw [hE]; rfl
    have hT : caSaid c word = ⟨0, 0, []⟩ := by unfold caSaid; rw [hE]; rfl
    have hx : word < 1 ∨ (¬ word < 1 ∧ 30 < word) := by simp [isWord] at hw; omega
    rw [hE, hS, hT]
    obtain ⟨p0, p1, p2, _⟩ := hbad.sd
    have HB := Lib.hid (hbad.drop.sl_nil 3 1)
    have HE := Lib.hid hE; have HS := Lib.hid hS; have HT := Lib.hid hT; have HI := Lib.hid hI; have HQ := Lib.hid hq; have HY := Lib.hid hy; have HAT := Lib.hid hat; have HW := Lib.hid hw; have H5 := Lib.hid h5
    clear hE hS hT hI hq hy hat hw h5
    clear hbad
    rcases hx with hx | ⟨hx, hxx⟩
    all_goals
      go_enter Tryd.func30, Tryd.ntmps30
      go_upto_region 1 with fail
      rw [← hb_b1, ← hw_w1]
      clear hb_b1 hw_w1
      go_wp2_with fail
      exact bodyPost_ret (v := .tuple #[.agg #[.int .i64 0, .int .i64 0, .slice none 0 0], .int .i64 1]) (by simp [results, Tryd.results30, go_sem, p0, p1, p2]) rfl ⟨_, rfl, HB.out⟩
  have hwb : 1 ≤ word ∧ word ≤ 30 := by simpa [isWord] using hw
  obtain ⟨c0, hc, _, hf⟩ := HO1.out.rcb_facts h5
  have d0 := hc q hq5
  rw [← hy] at d0
  have q0 : (0 : Int) ≤ (q : Int) := by omega
  have q5 : (q : Int) < 5 := by omega
  rw [hq] at c0
  by_cases hy1 : y = 1000000
  · have hE : caSayErr c word = 4 := by unfold caSayErr; rw [if_neg (by rw [hw]; simp), hat, if_pos hy1]
    have hS : caSay c word = c := by unfold caSay; rw [hE]; rfl
    have hT : caSaid c word = ⟨0, 0, []⟩ := by unfold caSaid; rw [hE]; rfl
    have t1 : (y == 1000000) = true := by rw [beq_iff_eq]; exact hy1
    rw [hE, hS, hT]
    obtain ⟨p0, p1, p2, _⟩ := hbad.drew.sd
    have HB := Lib.hid (hbad.drew.drop.sl_nil 3 1)
    have HE := Lib.hid hE; have HS := Lib.hid hS; have HT := Lib.hid hT; have HI := Lib.hid hI; have HQ := Lib.hid hq; have HY := Lib.hid hy; have HAT := Lib.hid hat; have HW := Lib.hid hw; have H5 := Lib.hid h5; have HY1 := Lib.hid hy1
    clear hE hS hT hI hq hy hat hw h5 hy1
    clear hbad hc hf
    go_enter Tryd.func30, Tryd.ntmps30
    go_upto_region 1 with fail
    rw [← hb_b1, ← hw_w1]
    clear hb_b1 hw_w1
    go_upto_region 3 with fail
    refine wp_region_tail 9 (by kernel_rfl) (by kernel_rfl) ?_
    simp only [List.take_succ_cons, List.take_zero, List.drop_succ_cons, List.drop_zero]
    repeat still_step
    refine wpStill_nil ?_
    go_wp2_with fail
    exact bodyPost_ret (v := .tuple #[.agg #[.int .i64 0, .int .i64 0, .slice none 0 0], .int .i64 4]) (by simp [results, Tryd.results30, go_sem, p0, p1, p2]) rfl ⟨_, rfl, HB.out⟩
  have hE : caSayErr c word = 0 := by unfold caSayErr; rw [if_neg (by rw [hw]; simp), hat, if_neg hy1]
  have hS : caSay c word = ⟨c.me, c.clk.set q (y + 1), c.waits⟩ := by unfold caSay caBump; rw [hE, hat, hq, Int.toNat_natCast]; rfl
  have hT : caSaid c word = ⟨q, word, c.clk.set q (y + 1)⟩ := by unfold caSaid caBump; rw [hE, hat, hq, Int.toNat_natCast]; rfl
  have hIs := hI.say word
  rw [hS] at hIs
  have t1 : (y == 1000000) = false := by rw [beq_eq_false_iff_ne]; exact hy1
  have s0 := HO1.out.rcb_bump h5 hq5 (y + 1)
  have f0 := hf (1 + q) none
  obtain ⟨D, hD⟩ : ∃ D, D = c.clk.set q (y + 1) := ⟨_, rfl⟩
  obtain ⟨w2, hw2⟩ : ∃ w2, w2 = w1.setCell ⟨p, 1 + q, none⟩ (.int .i64 (y + 1)) := ⟨_, rfl⟩
  rw [← hw2, ← hD] at s0
  rw [← hD] at hS hT hIs
  rw [hE, hS, hT]
  have hDv : vecErr D = 0 := hIs.clk
  have hD5 := (vecErr0 hDv).1
  have HO2 := Lib.hid s0
  clear HO hc hf s0 hbad z0 z1 z2 zf0 zf1 zf2
  have HQ := Lib.hid hq
  clear hq
  have HE := Lib.hid hE; have HS := Lib.hid hS; have HT := Lib.hid hT; have HI := Lib.hid hI; have HY := Lib.hid hy; have HAT := Lib.hid hat; have HW := Lib.hid hw; have H5 := Lib.hid h5; have HY1 := Lib.hid hy1; have HIS := Lib.hid hIs; have HD := Lib.hid hD; have HDV := Lib.hid hDv; have HD5 := Lib.hid hD5
  clear hE hS hT hI hy hat hw h5 hy1 hIs hD hDv hD5
  go_enter Tryd.func30, Tryd.ntmps30
  go_upto_region 1 with fail
  rw [← hb_b1, ← hw_w1]
  clear hb_b1 hw_w1
  go_upto_region 3 with fail
  refine wp_region_tail 9 (by kernel_rfl) (by kernel_rfl) ?_
  simp only [List.take_succ_cons, List.take_zero, List.drop_succ_cons, List.drop_zero]
  repeat still_step
  refine wpStill_nil ?_
  go_upto_region 5 with fail
  refine wp_region_tail 12 (by kernel_rfl) (by kernel_rfl) ?_
  simp only [List.take_succ_cons, List.take_zero, List.drop_succ_cons, List.drop_zero]
  repeat still_step
  refine wpStill_nil ?_
  go_upto_region 6 with fail
  rw [← hw2]
  clear d0 c0 f0 hw2 t1
  have HO3 := Lib.hid HO2.out.drew.drew.drew
  obtain ⟨c0, _, _, _⟩ := HO2.out.rcb_facts HD5.out
  rw [HQ.out] at c0
  refine wp_region_planH 7 [] [(true, 0), (true, 1), (true, 2), (true, 3), (true, 4), (true, 5), (false, 6)] [7, 8, 9] (fun wS => (wS.cell? ⟨p, 0, none⟩ = some (.int .i64 q))) (by kernel_rfl) (by kernel_rfl) (c0) ?_
  simp only [pickH, pick, List.getElem?_cons_succ, List.getElem?_cons_zero, Option.toList, Option.map_some, List.cons_append, List.nil_append]
  repeat (refine wpPure_step ?_ rfl ?_ ?_; rotate_left; (focus (intro _; first | with_reducible rfl | (go_simp; done) | (go_simp; with_reducible rfl) | rfl)); go_simp)
  refine wpPure_nil ?_
  repeat (refine wpMix_read ?_ rfl ?_ ?_; rotate_left; (focus (intro _ hS; obtain s1 := hS; first | with_reducible rfl | (go_simp; done) | (go_simp; with_reducible rfl) | rfl)); go_simp)
  refine wpMix_write (fun K hK => ?_)
  go_simp
  refine (rcList_any p D HD5.out (fun w' ho i hi => (ho.rcb_facts HD5.out).2.1 i hi) HO3.out).mono ?_
  rintro e w4 ⟨v4, rfl, ho⟩
  obtain ⟨x1, x2, x3, x4⟩ := (ho.perm (show _ = SdO b1 0 0 (.slice none 0 0) * (IntSl v4 D * (rcBlk p c.me D v * R)) by ac_rfl)).sd
  have x40 := x4 0 none
  have x41 := x4 1 none
  have x42 := x4 2 none
  obtain ⟨ad4, cap4, hv4, _⟩ := Own.rd ho
  subst hv4
  have hput := (ho.perm (show _ = SdO b1 0 0 (.slice none 0 0) * (IntSl (.slice ad4 D.length cap4) D * (rcBlk p c.me D v * R)) by ac_rfl)).sd_put (q : Int) word (.slice ad4 D.length cap4)
  obtain ⟨p0, p1, p2, _⟩ := hput.sd
  have HPUT := Lib.hid hput.drop
  obtain ⟨k0, _, _, _⟩ := (ho.perm (star_left_comm _ _ _)).rcb_facts HD5.out
  rw [HQ.out] at k0
  have k0' := (hput.third.rcb_facts HD5.out).1
  rw [HQ.out] at k0'
  clear ho hput x4 c0
  refine hK _ _ ⟨k0, ?_⟩
  clear hK K
  go_simp
  refine wpMix_nil ?_
  go_wp2_with fail
  refine NoPanic.normal ?_
  go_wp2_with fail
  exact bodyPost_ret (v := .tuple #[.agg #[.int .i64 q, .int .i64 word, .slice ad4 D.length cap4], .int .i64 0]) (by simp [results, Tryd.results30, go_sem, p0, p1, p2]) rfl ⟨_, rfl, HPUT.out⟩
end Go.Proofs.YtldmdenojpnldaaDoor
/- Pieces of a function's text, found by their numbers. -/
namespace Go.Proofs.YtldmdenojpnldaaDoor
set_option linter.unusedVariables false
set_option linter.unusedSimpArgs false
open Go.RowKit
def findIf (t : Nat) : Code → Option Code
  | .cond (.tmp k) a b => if k = t then some (.cond (.tmp k) a b) else match findIf t a with
    | some c => some c
    | none => findIf t b
  | .seq a b => match findIf t a with
    | some c => some c
    | none => findIf t b
  | .block _ c => findIf t c
  | .loop c => findIf t c
  | .scope c => findIf t c
  | _ => none
def findBlock (t : Nat) : Code → Option Code
  | .cond _ a b => match findBlock t a with
    | some c => some c
    | none => findBlock t b
  | .seq a b => match findBlock t a with
    | some c => some c
    | none => findBlock t b
  | .block k c => if k = t then some (.block k c) else findBlock t c
  | .loop c => findBlock t c
  | .scope c => findBlock t c
  | _ => none
def findRegion (t : Nat) : Code → Option Code
  | .cond _ a b => match findRegion t a with
    | some c => some c
    | none => findRegion t b
  | .seq a b => match findRegion t a with
    | some c => some c
    | none => findRegion t b
  | .region k o d => if k = t then some (.region k o d) else none
  | .block _ c => findRegion t c
  | .loop c => findRegion t c
  | .scope c => findRegion t c
  | _ => none
end Go.Proofs.YtldmdenojpnldaaDoor
