/- Contracts of package cause, continued: Take, of a member for whom words may wait. -/
import Derived.Test.YtdfjbnfdknpahaaGreatDoorMRunAnswers14
import Derived.Test.YtdfjbnfdknpahaaGreatDoorMRunAnswers15
namespace Go.Proofs.YtdfjbnfdknpahaaGreatDoor
set_option linter.unusedVariables false
set_option linter.unusedSimpArgs false
open Go.RowKit
theorem sl_shape {w0 w : World} {ty : TypeId} {size : Nat} {v : Value} {n : Nat} {xs : List Value} {R : HProp} (h : Own w0 (Sl ty size v n xs * R) w) : ∃ ad L cp, v = .slice ad L cp := by
  obtain ⟨ad, cp, e, _⟩ := Own.rd h
  exact ⟨ad, n, cp, e⟩
theorem whereI_map {α β : Type} (f : α → β) (p : β → Bool) : ∀ l : List α, whereI p (l.map f) = whereI (fun x => p (f x)) l := by
  intro l
  rcases whereI_cases (fun x => p (f x)) l with ⟨h1, h2⟩ | ⟨k, hk, h1, h2, h3⟩
  · rw [h1]
    refine whereI_miss p _ (fun j h => ?_)
    rw [List.getElem_map]
    exact h2 _ (List.getElem_mem _)
  · rw [h1]
    refine whereI_hit p _ k (by simpa using hk) (fun j h => ?_) ?_
    · rw [List.getElem_map]; exact h3 j h
    · rw [List.getElem_map]; exact h2
theorem map_erase {α β : Type} (f : α → β) : ∀ (l : List α) (k : Nat), (l.map f).eraseIdx k = (l.eraseIdx k).map f
  | [], _ => rfl
  | x :: l, 0 => rfl
  | x :: l, k + 1 => by simp [map_erase f l k]
theorem sd_erase {rows : List SdR} {k : Nat} (hk : k < rows.length) : (rows.flatMap sdCells).take (k * 3) ++ (rows.flatMap sdCells).drop ((k + 1) * 3) = (rows.eraseIdx k).flatMap sdCells := by
  have h1 : rows.flatMap sdCells = (rows.take k).flatMap sdCells ++ (rows.drop k).flatMap sdCells := by rw [← List.flatMap_append, List.take_append_drop]
  have h2 : rows.flatMap sdCells = (rows.take (k + 1)).flatMap sdCells ++ (rows.drop (k + 1)).flatMap sdCells := by rw [← List.flatMap_append, List.take_append_drop]
  have l1 : ((rows.take k).flatMap sdCells).length = k * 3 := by rw [sd_len, List.length_take, Nat.min_eq_left (by omega)]
  have l2 : ((rows.take (k + 1)).flatMap sdCells).length = (k + 1) * 3 := by rw [sd_len, List.length_take, Nat.min_eq_left (by omega)]
  have e1 : (rows.flatMap sdCells).take (k * 3) = (rows.take k).flatMap sdCells := by rw [h1, List.take_left' l1]
  have e2 : (rows.flatMap sdCells).drop ((k + 1) * 3) = (rows.drop (k + 1)).flatMap sdCells := by
    conv => lhs; rw [h2]
    rw [List.drop_left' l2]
  rw [e1, e2, ← List.flatMap_append, List.eraseIdx_eq_take_drop_succ]
section
variable {w0 w : World} {p mb : Nat} {wv : Value} {rows : List SdR} {c : Ca} {R : HProp}
theorem Own.cw_push {v' : Value} {r : SdR} {me : Int} {clk : List Int} (h : Own w0 (Sl 59 3 v' (rows.length + 1) (rows.flatMap sdCells ++ sdCells r) * (cwBlk p mb me wv * (IntSl (.slice (some ⟨mb, 0, none⟩) 5 5) clk * (starL sdRow rows * (sdRow r * R))))) w) (ws : List Sd) :
    Own w0 (CwO p mb v' (rows ++ [r]) ⟨me, clk, ws⟩ * R) (w.setCell ⟨p, 2, none⟩ v') := by
  have h1 := h.second.setCell (i := 2) (v := v')
  refine h1.perm ?_
  unfold CwO
  rw [starL_snoc, List.length_append, List.flatMap_append]
  have : ([r].flatMap sdCells) = sdCells r := by simp
  rw [this]
  show cwBlk p mb me v' * _ = _
  simp only [List.length_singleton]
  ac_rfl
theorem Own.cw_slAt {b off cap : Nat} (hl : 0 < rows.length) (h : Own w0 (CwO p mb (.slice (some ⟨b, off, none⟩) rows.length cap) rows c * R) w) : Own w0 (SlAt 59 3 b off rows.length cap (rows.flatMap sdCells) * (cwBlk p mb c.me (.slice (some ⟨b, off, none⟩) rows.length cap) * (IntSl (.slice (some ⟨mb, 0, none⟩) 5 5) c.clk * (starL sdRow rows * R)))) w := by
  obtain ⟨b', off', cap', e, h0⟩ := Own.slAt h.cw_sl (by rw [sd_len]; omega)
  injection e with e1 _ e3
  injection e1 with e1
  injection e1 with e1 e2 _
  subst e1; subst e2; subst e3
  exact h0
theorem Own.cw_cut {b off cap k : Nat} {me : Int} {clk : List Int} (hk : k < rows.length) (h : Own w0 (SlAt 59 3 b off (rows.length - 1) cap ((rows.flatMap sdCells).take (k * 3) ++ (rows.flatMap sdCells).drop ((k + 1) * 3)) * (cwBlk p mb me wv * (IntSl (.slice (some ⟨mb, 0, none⟩) 5 5) clk * (starL sdRow rows * R)))) w) (ws : List Sd) :
    Own w0 (CwO p mb (.slice (some ⟨b, off, none⟩) (rows.length - 1) cap) (rows.eraseIdx k) ⟨me, clk, ws⟩ * R) (w.setCell ⟨p, 2, none⟩ (.slice (some ⟨b, off, none⟩) (rows.length - 1) cap)) := by
  rw [sd_erase hk] at h
  have h1 : Own w0 (cwBlk p mb me (.slice (some ⟨b, off, none⟩) (rows.length - 1) cap) * (Sl 59 3 (.slice (some ⟨b, off, none⟩) (rows.length - 1) cap) (rows.length - 1) ((rows.eraseIdx k).flatMap sdCells) * (IntSl (.slice (some ⟨mb, 0, none⟩) 5 5) clk * (starL sdRow rows * R)))) _ := h.sl_of_at.second.setCell (i := 2) (v := .slice (some ⟨b, off, none⟩) (rows.length - 1) cap)
  rw [starL_split sdRow rows k hk] at h1
  have h2 : Own w0 (sdRow rows[k] * (cwBlk p mb me (.slice (some ⟨b, off, none⟩) (rows.length - 1) cap) * (Sl 59 3 (.slice (some ⟨b, off, none⟩) (rows.length - 1) cap) (rows.length - 1) ((rows.eraseIdx k).flatMap sdCells) * (IntSl (.slice (some ⟨mb, 0, none⟩) 5 5) clk * (starL sdRow (rows.eraseIdx k) * R))))) _ := h1.perm (by ac_rfl)
  refine h2.drop.perm ?_
  unfold CwO
  rw [List.length_eraseIdx_of_lt hk]
  ac_rfl
end
theorem info_sd : (Tryz.prog.info? 59).map (fun i => (i.zero, i.size, i.bytes)) = some (some (.agg #[.int .i64 0, .int .i64 0, .slice none 0 0]), 3, 40) := by kernel_rfl
/-- What is left to hear. -/
def CwInv (c : Ca) (s : Sd) (out : List Int) (clk : List Int) (ws : List Sd) : Prop :=
  (caRun c s).1 = (caHear ws.length clk ws).1 ∧ (caRun c s).2.1 = (caHear ws.length clk ws).2.1 ∧ s.word :: (caRun c s).2.2 = out ++ (caHear ws.length clk ws).2.2
theorem CwInv.start (c : Ca) (s : Sd) : CwInv c s [s.word] (caBump c.clk s.who) c.waits := ⟨rfl, rfl, rfl⟩
theorem CwInv.done {c : Ca} {s : Sd} {out clk : List Int} {ws : List Sd} (h : CwInv c s out clk ws) (hn : whereI (caReady clk) ws = -1) : (caRun c s).1 = clk ∧ (caRun c s).2.1 = ws ∧ s.word :: (caRun c s).2.2 = out := by
  have e : caHear ws.length clk ws = (clk, ws, []) := by
    cases hl : ws.length with
    | zero => rfl
    | succ k =>
      unfold caHear
      rw [dif_neg (by rw [hn]; omega)]
  obtain ⟨h1, h2, h3⟩ := h
  rw [e] at h1 h2 h3
  exact ⟨h1, h2, by simpa using h3⟩
theorem CwInv.step {c : Ca} {s : Sd} {out clk : List Int} {ws : List Sd} (h : CwInv c s out clk ws) {k : Nat} (hk : k < ws.length) (hn : whereI (caReady clk) ws = (k : Int)) : CwInv c s (out ++ [ws[k].word]) (caBump clk ws[k].who) (ws.eraseIdx k) := by
  obtain ⟨m, hm⟩ : ∃ m, ws.length = m + 1 := ⟨ws.length - 1, by omega⟩
  have hl : (ws.eraseIdx k).length = m := by rw [List.length_eraseIdx_of_lt hk]; omega
  have e : caHear (m + 1) clk ws = ((caHear m (caBump clk ws[k].who) (ws.eraseIdx k)).1, (caHear m (caBump clk ws[k].who) (ws.eraseIdx k)).2.1, ws[k].word :: (caHear m (caBump clk ws[k].who) (ws.eraseIdx k)).2.2) := by
    have hc : (whereI (caReady clk) ws).toNat < ws.length ∧ 0 ≤ whereI (caReady clk) ws := by rw [hn]; omega
    have ht : (whereI (caReady clk) ws).toNat = k := by rw [hn, Int.toNat_natCast]
    conv => lhs; unfold caHear
    rw [dif_pos hc]
    simp only [ht]
  obtain ⟨h1, h2, h3⟩ := h
  rw [hm, e] at h1 h2 h3
  unfold CwInv
  rw [hl]
  exact ⟨h1, h2, by rw [h3]; simp⟩
theorem whereI_hitD {α : Type} (p : α → Bool) (l : List α) : whereI p l = -1 ∨ ∃ (k : Nat) (hk : k < l.length), whereI p l = k ∧ p l[k] = true := by
  rcases whereI_cases p l with ⟨h, _⟩ | ⟨k, hk, h1, h2, _⟩
  · exact .inl h
  · exact .inr ⟨k, hk, h1, h2⟩
/-- What Take's loop holds. -/
def CwLp (w0 : World) (R : HProp) (p mb : Nat) (c : Ca) (s : Sd) (g : Nat) (ov : Value) (wr : World) : Prop :=
  ∃ (clk : List Int) (rows : List SdR) (out : List Int) (wv : Value), rows.length = g ∧ vecErr clk = 0 ∧ (∀ r ∈ rows, sdErr r.2 = 0) ∧ out.length + rows.length ≤ 41 ∧ CwInv c s out clk (rows.map (·.2)) ∧
    Own w0 (IntSl ov out * (CwO p mb wv rows ⟨c.me, clk, rows.map (·.2)⟩ * R)) wr
set_option maxRecDepth 100000 in
set_option maxHeartbeats 4000000 in
theorem cwTake_no {w0 w : World} {R : HProp} (p : Nat) (c : Ca) (s : Sd) (cv : Value) (hI : CaI c) (hE : caErr c s ≠ 0) (hv : Reads w0 R cv s.clk) (h : Own w0 (CwP p c * R) w) :
    Calls Tryz.prog 78 #[.pointer (some ⟨p, 0, none⟩), .agg #[.int .i64 s.who, .int .i64 s.word, cv]] w fun e w' => e = .returned (.tuple #[.slice none 0 0, errV (caErr c s)]) ∧ Own w0 (CwP p c * R) w' := by
  obtain ⟨mm, hmm⟩ := errV_some hE
  rw [hmm]
  obtain ⟨vad, vcap, rfl, hvc1, hvc2⟩ := (hv _ h.drop).shape
  obtain ⟨b1, hb_b1⟩ : ∃ zz_, zz_ = (w).heap.size := ⟨_, rfl⟩
  obtain ⟨w1, hw_w1⟩ : ∃ zz_, zz_ = (w).alloc (.cells #[.int .i64 s.who, .int .i64 s.word, .slice vad s.clk.length vcap] 59 (0, 0)) := ⟨_, rfl⟩
  have h_HO := (h).alloc (.cells #[.int .i64 s.who, .int .i64 s.word, .slice vad s.clk.length vcap] 59 (0, 0))
  rw [← hb_b1, ← hw_w1] at h_HO
  have HO := Lib.hid h_HO
  clear h_HO
  obtain ⟨x0, x1, x2, _⟩ := (show Own w0 (SdO b1 s.who s.word (.slice vad s.clk.length vcap) * (CwP p c * R)) w1 from HO.out).sd
  have HO1 : Hid (Own w0 (CwP p c * (SdO b1 s.who s.word (.slice vad s.clk.length vcap) * R)) w1) := Lib.hid (HO.out.perm (star_left_comm _ _ _))
  clear HO
  have H := Lib.hid h; have HV := Lib.hid hv; have HI := Lib.hid hI; have HE := Lib.hid hE; have HMM := Lib.hid hmm
  clear h hv hI hE hmm
  go_enter Tryz.func78, Tryz.ntmps78
  go_upto_region 1 with fail
  rw [← hb_b1, ← hw_w1]
  clear hb_b1 hw_w1
  go_wp2_with fail
  refine (cwCheck_any p c s _ HI.out HV.out.more HO1.out).mono ?_
  rintro e w' ⟨rfl, ho⟩
  rw [HMM.out]
  have HO2 := Lib.hid ho
  clear ho
  go_wp2
  go_ret2
  exact ⟨rfl, (HO2.out.perm (star_left_comm _ _ _)).drop⟩
set_option maxRecDepth 100000 in
set_option maxHeartbeats 4000000 in
theorem cwTake_yes {w0 w : World} {R : HProp} (p : Nat) (c : Ca) (s : Sd) (cv : Value) (hI : CaI c) (hE : caErr c s = 0) (hv : Reads w0 R cv s.clk) (h : Own w0 (CwP p c * R) w) :
    Calls Tryz.prog 78 #[.pointer (some ⟨p, 0, none⟩), .agg #[.int .i64 s.who, .int .i64 s.word, cv]] w fun e w' => ∃ v', e = .returned (.tuple #[v', errV 0]) ∧ Own w0 (IntSl v' (caOut c s) * (CwP p (caTake c s) * R)) w' := by
  obtain ⟨hs0, hs1, hs2, hs3, hs4, hs5⟩ := caErr0 hE
  obtain ⟨hm, hw, hV⟩ := sdErr0 hs0
  have V5 := (vecErr0 hV).1
  have h5 := (vecErr0 hI.clk).1
  have hot : caOut c s = if caReady c.clk s = true then s.word :: (caRun c s).2.2 else [] := by unfold caOut; rw [if_pos hE]
  have htk : caTake c s = if caReady c.clk s = true then ⟨c.me, (caRun c s).1, (caRun c s).2.1⟩ else ⟨c.me, c.clk, c.waits ++ [s]⟩ := by unfold caTake; rw [if_pos hE]
  obtain ⟨vad, vcap, rfl, hvc1, hvc2⟩ := (hv _ h.drop).shape
  obtain ⟨q, hq⟩ : ∃ q : Nat, s.who = (q : Int) := ⟨s.who.toNat, by simp [isMember] at hm; omega⟩
  have hq5 : q < 5 := by simp [isMember] at hm; omega
  have q0 : (0 : Int) ≤ (q : Int) := by omega
  have q5 : (q : Int) < 5 := by omega
  obtain ⟨C, hC⟩ : ∃ C, C = s.clk := ⟨_, rfl⟩
  rw [V5] at hvc1 hv ⊢
  rw [hq]
  obtain ⟨b1, hb_b1⟩ : ∃ zz_, zz_ = (w).heap.size := ⟨_, rfl⟩
  obtain ⟨w1, hw_w1⟩ : ∃ zz_, zz_ = (w).alloc (.cells #[.int .i64 q, .int .i64 s.word, .slice vad 5 vcap] 59 (0, 0)) := ⟨_, rfl⟩
  have h_HO := (h).alloc (.cells #[.int .i64 q, .int .i64 s.word, .slice vad 5 vcap] 59 (0, 0))
  rw [← hb_b1, ← hw_w1] at h_HO
  have HO := Lib.hid h_HO
  clear h_HO
  obtain ⟨x0, x1, x2, _⟩ := (show Own w0 (SdO b1 q s.word (.slice vad 5 vcap) * (CwP p c * R)) w1 from HO.out).sd
  have HO1 : Hid (Own w0 (CwP p c * (SdO b1 q s.word (.slice vad 5 vcap) * R)) w1) := Lib.hid (HO.out.perm (star_left_comm _ _ _))
  clear HO
  have HCK := Lib.hid (cwCheck_any p c s _ hI hv.more HO1.out)
  rw [hE, hq] at HCK
  have HV_ := Lib.hid hV
  have V5H := Lib.hid V5
  have HQ := Lib.hid hq
  have HOT := Lib.hid hot
  have HTK := Lib.hid htk
  clear hV V5 hq hot htk
  have H := Lib.hid h; have HV := Lib.hid hv; have HI := Lib.hid hI; have HE := Lib.hid hE; have HS0 := Lib.hid hs0; have HS1 := Lib.hid hs1; have HS2 := Lib.hid hs2; have HS3 := Lib.hid hs3; have HS4 := Lib.hid hs4; have HS5 := Lib.hid hs5; have HM := Lib.hid hm; have HW := Lib.hid hw; have H5 := Lib.hid h5; have HC := Lib.hid hC
  clear h hv hI hE hs0 hs1 hs2 hs3 hs4 hs5 hm hw h5 hC
  go_enter Tryz.func78, Tryz.ntmps78
  go_upto_region 1 with fail
  rw [← hb_b1, ← hw_w1]
  clear hb_b1 hw_w1
  go_wp2_with fail
  refine HCK.out.mono ?_
  rintro e w2 ⟨rfl, ho⟩
  rw [errV0]
  have HO2 := Lib.hid ho
  obtain ⟨y0, y1, y2, yf⟩ := (ho.perm (star_left_comm _ _ _)).sd
  clear ho x0 x1 x2 HO1 HCK
  go_wp2_with fail
  refine (cloneInts_any HO2.out _ s.clk (HV.out _ HO2.out.drop.drop) (by have := V5H.out; omega)).mono ?_
  rintro e w3 ⟨v3, rfl, ho⟩
  obtain ⟨ad3, cap3, hv3, _⟩ := Own.rd ho
  subst hv3
  have ho1 := (ho.perm (show _ = SdO b1 q s.word (.slice vad 5 vcap) * (CwP p c * (IntSl (.slice ad3 s.clk.length cap3) s.clk * R)) by ac_rfl))
  obtain ⟨_, _, z2, z3⟩ := ho1.sd
  have z32 := z3 2 none
  have ho2 := ho1.sd_put2 (.slice ad3 s.clk.length cap3)
  rw [V5H.out] at ho2
  obtain ⟨w4, hw4⟩ : ∃ w4, w4 = w3.setCell ⟨b1, 2, none⟩ (.slice ad3 5 cap3) := ⟨_, rfl⟩
  rw [← hw4] at ho2
  obtain ⟨x0, x1, x2, _⟩ := ho2.sd
  obtain ⟨mb, wv, rows, he, ho3⟩ := (ho2.perm (star_left_comm _ _ _)).cw_open
  have HO3 := Lib.hid ho3
  rw [V5H.out]
  have HE_ := Lib.hid he
  clear ho ho1 ho2 ho3 y0 y1 y2 yf z3 HO2 he
  have hb := fun i (_ : i < 5) => vec_get HI.out.clk i
  have key : Calls Tryz.prog 102 #[.pointer (some ⟨p, 0, none⟩), .agg #[.int .i64 q, .int .i64 s.word, .slice ad3 5 cap3]] w4 fun e w' => e = .returned (.bool (caReady c.clk s)) ∧ Own w0 (CwO p mb wv rows c * (SdO b1 q s.word (.slice ad3 5 cap3) * (IntSl (.slice ad3 5 cap3) s.clk * R))) w' := by
    have h1 := caReady_any p mb c.clk s (.slice ad3 5 cap3) V5H.out hb (fun w' ho' => by
      obtain ⟨_, k1, _, k3, _, _⟩ := ho'.cw_facts H5.out
      exact ⟨k1, k3, IntSl_reads (vecErr_I64 HV_.out) _ ho'.drop.drop⟩) HO3.out
    rw [HQ.out] at h1
    exact h1
  have HKEY := Lib.hid key
  clear key hb HO3
  go_upto_region 5 with fail
  rw [← hw4]
  clear hw4 z2 z32
  go_wp2_with fail
  refine HKEY.out.mono ?_
  rintro e w5 ⟨rfl, ho5⟩
  obtain ⟨c0, c1, c2, hc, hf, hpf⟩ := ho5.cw_facts H5.out
  obtain ⟨x0, x1, x2, _⟩ := ho5.second.sd
  obtain ⟨wad, wcap, hwv, hwc1, hwc2⟩ := ho5.cw_shape
  obtain ⟨B, hB⟩ : ∃ B, B = caReady c.clk s := ⟨_, rfl⟩
  rw [← hB]
  clear HKEY
  have HB := Lib.hid hB
  rw [← hB] at HOT HTK
  clear hB
  cases B
  · -- it waits
    rw [if_neg (by simp)] at HOT HTK
    have pf2 := hpf 2 none
    have hN40 : rows.length < 40 := by
      have h1 : rows.length = c.waits.length := by rw [← HE_.out, List.length_map]
      rcases HS5.out with h2 | h2
      · omega
      · rw [← HB.out] at h2; cases h2
    have hone : ∀ u ∈ rows.flatMap sdCells, u.oneCell' = true := ho5.cw_one
    have HT : Hid (Own w0 (Sl 59 3 wv rows.length (rows.flatMap sdCells) * (cwBlk p mb c.me wv * (IntSl (.slice (some ⟨mb, 0, none⟩) 5 5) c.clk * (starL sdRow rows * (sdRow (.slice ad3 5 cap3, s) * (SdO b1 q s.word (.slice ad3 5 cap3) * R)))))) w5) := Lib.hid (ho5.cw_sl.perm (by
      show _ = _ * (_ * (_ * (_ * (IntSl (.slice ad3 5 cap3) s.clk * _))))
      ac_rfl))
    subst hwv
    obtain ⟨N, hN⟩ : ∃ N, N = rows.length := ⟨_, rfl⟩
    rw [← hN] at c2 hwc1
    have HN := Lib.hid hN
    have hN' := hN
    rw [← hN'] at HT
    clear hN hN' hc hf hpf ho5
    have HONE := Lib.hid hone; have HN40 := Lib.hid hN40
    clear hone hN40
    go_upto_region 6 with fail
    refine wp_region_planH 10 [] [(true, 0), (true, 1), (true, 2), (true, 3), (true, 4), (true, 5), (false, 6), (false, 7), (true, 8), (true, 9)] [10] (fun wS => wS.cell? ⟨p, 2, none⟩ = some (.slice wad N wcap) ∧ wS.cell? ⟨b1, 0, none⟩ = some (.int .i64 q) ∧ wS.cell? ⟨b1, 1, none⟩ = some (.int .i64 s.word) ∧ wS.cell? ⟨b1, 2, none⟩ = some (.slice ad3 5 cap3)) (by kernel_rfl) (by kernel_rfl) (⟨c2, x0, x1, x2⟩) ?_
    simp only [pickH, pick, List.getElem?_cons_succ, List.getElem?_cons_zero, Option.toList, Option.map_some, List.cons_append, List.nil_append]
    repeat (refine wpPure_step ?_ rfl ?_ ?_; rotate_left; (focus (intro _; first | with_reducible rfl | (go_simp; done) | (go_simp; with_reducible rfl) | rfl)); go_simp)
    refine wpPure_nil ?_
    repeat (refine wpMix_read ?_ rfl ?_ ?_; rotate_left; (focus (intro _ hS; obtain ⟨q1, q2, q3, q4⟩ := hS; first | with_reducible rfl | (go_simp; done) | (go_simp; with_reducible rfl) | rfl)); go_simp)
    refine wpMix_write (fun K hK => ?_)
    go_simp
    obtain ⟨b3, hb_b3⟩ : ∃ zz_, zz_ = (w5).heap.size := ⟨_, rfl⟩
    obtain ⟨w6, hw_w6⟩ : ∃ zz_, zz_ = (w5).alloc (.cells #[.int .i64 q, .int .i64 s.word, .slice ad3 5 cap3] 59 (0, 0)) := ⟨_, rfl⟩
    have h_HB3 := (HT.out).alloc (.cells #[.int .i64 q, .int .i64 s.word, .slice ad3 5 cap3] 59 (0, 0))
    rw [← hb_b3, ← hw_w6] at h_HB3
    have HB3 := Lib.hid h_HB3
    clear h_HB3
    rw [← hb_b3, ← hw_w6]
    clear hb_b3 hw_w6
    have HB5 : Hid (Own w0 (Sl 59 3 (.slice wad N wcap) N (rows.flatMap sdCells) * (cwBlk p mb c.me (.slice wad N wcap) * (IntSl (.slice (some ⟨mb, 0, none⟩) 5 5) c.clk * (starL sdRow rows * (sdRow (.slice ad3 5 cap3, s) * (SdO b1 q s.word (.slice ad3 5 cap3) * (blk b3 (.cells #[.int .i64 q, .int .i64 s.word, .slice ad3 5 cap3] 59 (0, 0)) * R))))))) w6.drew) := Lib.hid (HB3.out.drew.perm (by ac_rfl))
    clear HB3 HT c0 c1 c2 x0 x1 x2
    have c2 : w6.drew.cell? ⟨p, 2, none⟩ = some (.slice wad N wcap) := (HB5.out.second.cell 2).trans rfl
    obtain ⟨x0, x1, x2, _⟩ := HB5.out.sixth.sd
    refine hK _ _ ⟨⟨c2, x0, x1, x2⟩, ?_⟩
    clear hK K
    go_simp
    refine wpMix_write (fun K hK => ?_)
    have hsrc : Rd w6.drew (.slice (some ⟨b3, 0, none⟩) 1 1) 1 [.int .i64 q, .int .i64 s.word, .slice ad3 5 cap3] := Rd_one (fun i u hi => by
      rw [HB5.out.seventh.cell]
      match i, hi with
      | 0, hi => exact hi
      | 1, hi => exact hi
      | 2, hi => exact hi) (Nat.le_refl _) (by unfold maxLen; omega)
    have hN2 : N < 40 := by rw [HN.out]; exact HN40.out
    refine step_app rfl _ _ 66 rfl 59 3 40 _ info_sd Tryz.underlying66 rfl (by decide) (by rfl) HB5.out (by rfl) (by rfl) hsrc (by intro u hu; simp at hu; rcases hu with rfl | rfl | rfl <;> rfl) (by unfold maxLen; omega) (by omega) ?_
    intro v7 w7 ho7
    have d2 : w7.cell? ⟨p, 2, none⟩ = some (.slice wad N wcap) := (ho7.second.cell 2).trans rfl
    have f2 : w7.frozen? ⟨p, 2, none⟩ = false := ho7.second.free 2 none
    obtain ⟨x0, x1, x2, _⟩ := ho7.sixth.sd
    have hp := ho7
    rw [HN.out] at hp
    have hfin : Own w0 (CwP p ⟨c.me, c.clk, c.waits ++ [s]⟩ * (SdO b1 q s.word (.slice ad3 5 cap3) * (blk b3 (.cells #[.int .i64 q, .int .i64 s.word, .slice ad3 5 cap3] 59 (0, 0)) * R))) (w7.setCell ⟨p, 2, none⟩ v7) := by
      refine Own.cw_close (mb := mb) (by rw [List.map_append, HE_.out]; rfl) (Own.cw_push (mb := mb) (wv := .slice wad rows.length wcap) (r := (.slice ad3 5 cap3, s)) ?_ (c.waits ++ [s]))
      rw [show sdCells (.slice ad3 5 cap3, s) = [.int .i64 q, .int .i64 s.word, .slice ad3 5 cap3] by unfold sdCells; rw [HQ.out]]
      exact hp
    obtain ⟨vad7, vn7, vcap7, hv7⟩ := sl_shape ho7
    have HFIN := Lib.hid ((hfin.perm (show _ = SdO b1 q s.word (.slice ad3 5 cap3) * (blk b3 (.cells #[.int .i64 q, .int .i64 s.word, .slice ad3 5 cap3] 59 (0, 0)) * (CwP p ⟨c.me, c.clk, c.waits ++ [s]⟩ * R)) by ac_rfl)).drop.drop)
    subst hv7
    clear hsrc ho7 hp hfin HB5
    refine hK _ _ ⟨⟨d2, x0, x1, x2⟩, ?_⟩
    clear hK K
    go_simp
    repeat (refine wpMix_read ?_ rfl ?_ ?_; rotate_left; (focus (intro _ hS; obtain ⟨q1, q2, q3, q4⟩ := hS; first | with_reducible rfl | (go_simp; done) | (go_simp; with_reducible rfl) | rfl)); go_simp)
    refine wpMix_nil ?_
    go_wp2_with fail
    refine NoPanic.normal ?_
    go_wp2_with fail
    go_ret2
    refine ⟨_, rfl, ?_⟩
    rw [HOT.out, HTK.out]
    exact (HFIN.out.sl_nil 3 1)
  · -- it is heard
    rw [if_pos rfl] at HOT HTK
    have d0 := hc q hq5
    have f0 := hf q none
    have s0 := ho5.cw_bump H5.out hq5 (c.clk.getD q 0 + 1)
    obtain ⟨b0, b1'⟩ := vec_get HI.out.clk q
    have hbump := caReady_bump HI.out.clk HS0.out HB.out.symm
    have hbv := hbump.1
    unfold caBump caAt at hbv
    rw [HQ.out, Int.toNat_natCast] at hbv
    obtain ⟨y, hy⟩ : ∃ y, y = c.clk.getD q 0 := ⟨_, rfl⟩
    rw [← hy] at d0 s0 b0 b1' hbv
    obtain ⟨D, hD⟩ : ∃ D, D = c.clk.set q (y + 1) := ⟨_, rfl⟩
    rw [← hD] at s0 hbv
    obtain ⟨w6, hw6⟩ : ∃ w6, w6 = w5.setCell ⟨mb, q, none⟩ (.int .i64 (y + 1)) := ⟨_, rfl⟩
    rw [← hw6] at s0
    have HO6 := Lib.hid s0
    have HN40 : Hid (rows.length ≤ 40) := Lib.hid (by have h1 : rows.length = c.waits.length := by rw [← HE_.out, List.length_map]
                                                      have := HI.out.len; omega)
    have HINV : Hid (CwInv c s [s.word] D (rows.map (·.2))) := Lib.hid (by
      have h1 := CwInv.start c s
      unfold caBump caAt at h1
      rw [HQ.out, Int.toNat_natCast, ← hy, ← hD, ← HE_.out] at h1
      exact h1)
    have HRS : Hid (∀ r ∈ rows, sdErr r.2 = 0) := Lib.hid (fun r hr => HI.out.ok _ (by rw [← HE_.out]; exact List.mem_map.2 ⟨_, hr, rfl⟩))
    clear hc hf hpf s0 ho5 hbump hwc1 hwc2 hwv
    have HY := Lib.hid hy; have HD := Lib.hid hD; have HBV := Lib.hid hbv
    clear hy hD hbv
    go_upto_region 8 with fail
    refine wp_region_tail 9 (by kernel_rfl) (by kernel_rfl) ?_
    simp only [List.take_succ_cons, List.take_zero, List.drop_succ_cons, List.drop_zero]
    repeat still_step
    refine wpStill_nil ?_
    obtain ⟨x0, x1, x2, _⟩ := HO6.out.second.sd
    obtain ⟨b7, hb_b7⟩ : ∃ zz_, zz_ = (w6).heap.size := ⟨_, rfl⟩
    obtain ⟨w7, hw_w7⟩ : ∃ zz_, zz_ = (w6).alloc (.cells #[.int .i64 s.word] 3 (0, 0)) := ⟨_, rfl⟩
    have h_HO7 := (HO6.out).alloc (.cells #[.int .i64 s.word] 3 (0, 0))
    rw [← hb_b7, ← hw_w7] at h_HO7
    have HO7 := Lib.hid h_HO7
    clear h_HO7
    go_upto_region 9 with fail
    rw [← hw6]
    clear hw6 d0 f0 c0 c1 c2
    go_upto_block 0 with fail
    rw [← hb_b7, ← hw_w7]
    clear hb_b7 hw_w7
    have hwrap : IntKind.i64.wrap (y + 1) = y + 1 := IntWalk.i64_in _ (by omega)
    rw [hwrap]
    clear hwrap
    have HLP : Hid (CwLp w0 (SdO b1 q s.word (.slice ad3 5 cap3) * (IntSl (.slice ad3 5 cap3) s.clk * R)) p mb c s rows.length (.slice (some ⟨b7, 0, none⟩) 1 1) w7.drew) := Lib.hid ⟨D, rows, [s.word], wv, rfl, HBV.out, HRS.out, by have := HN40.out; simp; omega, HINV.out, by
      have h1 := HO7.out.drew.lit1
      rw [← HE_.out] at h1
      exact h1⟩
    clear HO7 HO6 x0 x1 x2
    go_wp2_with fail
    go_loopg [7] (rows.length) (fun g ov wr => Hid (CwLp w0 (SdO b1 q s.word (.slice ad3 5 cap3) * (IntSl (.slice ad3 5 cap3) s.clk * R)) p mb c s g ov wr))
    case atStart => exact HLP
    case round =>
      clear HLP HINV HRS HN40 HE_
      obtain ⟨clk, rows, out, wv, hg, hcv, hrs, hol, hinv, hown⟩ := hrel.out
      clear hrel
      have h5' := (vecErr0 hcv).1
      have HR := Lib.hid hown.second
      obtain ⟨c0, c1, c2, hc, hf, hpf⟩ := hown.second.cw_facts h5'
      dsimp only at c0 c1 c2 hc
      have key := cwIx_any 102 (.pointer (some ⟨p, 0, none⟩)) (fun r => caReady clk r.2) HR.out (fun a w => by kernel_rfl) (fun k hk w ho => by
        have hok : sdErr rows[k].2 = 0 := hrs _ (List.getElem_mem hk)
        exact caReady_any p mb clk rows[k].2 rows[k].1 (vecErr0 (sdErr0 hok).2.2).1 (fun i _ => vec_get hcv i) (fun w' ho' => by
          obtain ⟨_, k1, _, k3, _, _⟩ := ho'.cw_facts h5'
          exact ⟨k1, k3, ho'.cw_row hk (sdErr0 hok).2.2⟩) ho)
      have HKEY := Lib.hid key
      clear key hc hf hpf hown
      have hcases := whereI_hitD (fun r : SdR => caReady clk r.2) rows
      obtain ⟨I, hI'⟩ : ∃ I, I = whereI (fun r : SdR => caReady clk r.2) rows := ⟨_, rfl⟩
      rw [← hI'] at HKEY hcases
      have HII := Lib.hid hI'
      have HCV := Lib.hid hcv
      have HRS := Lib.hid hrs
      have HINV := Lib.hid hinv
      have HG := Lib.hid hg
      clear hI' hcv hrs hinv hg
      rcases hcases with rfl | ⟨k, hk, rfl, hrd⟩
      · go_wp2_with fail
        refine HKEY.out.mono ?_
        rintro e w8 ⟨rfl, ho8⟩
        have HO8 := Lib.hid ho8
        clear ho8 c0 c1 c2
        go_wp2
        go_ret2
        refine ⟨u7, rfl, ?_⟩
        obtain ⟨e1, e2, e3⟩ := HINV.out.done (by rw [whereI_map]; exact HII.out.symm)
        rw [HOT.out, HTK.out, e1, e2, e3]
        exact ((Own.cw_close rfl HO8.out).perm (show _ = SdO b1 q s.word (.slice ad3 5 cap3) * (IntSl (.slice ad3 5 cap3) s.clk * (IntSl u7 out * (CwP p ⟨c.me, clk, rows.map (·.2)⟩ * R))) by ac_rfl)).drop.drop
      obtain ⟨sb, so, cap, hwv, hwc1, hwc2, hat⟩ := HR.out.cw_at (by omega)
      subst hwv
      have hok : sdErr rows[k].2 = 0 := HRS.out _ (List.getElem_mem hk)
      have hamem : 0 ≤ rows[k].2.who ∧ rows[k].2.who < 5 := by have := (sdErr0 hok).1; simpa [isMember] using this
      obtain ⟨a, ha⟩ : ∃ a : Nat, rows[k].2.who = (a : Int) := ⟨rows[k].2.who.toNat, by omega⟩
      have ha5 : a < 5 := by omega
      have hbump := caReady_bump HCV.out hok hrd
      have hwl : (rows.map (·.2)).length = rows.length := List.length_map ..
      have hk2 : k < (rows.map (·.2)).length := by rw [hwl]; exact hk
      have hstep := HINV.out.step hk2 (by rw [whereI_map]; exact HII.out.symm)
      rw [show (rows.map (·.2))[k] = rows[k].2 from List.getElem_map ..] at hstep
      unfold caBump caAt at hbump hstep
      rw [ha, Int.toNat_natCast] at hbump hstep
      obtain ⟨b0, b1''⟩ := vec_get HCV.out a
      obtain ⟨y2, hy2⟩ : ∃ y2, y2 = clk.getD a 0 := ⟨_, rfl⟩
      obtain ⟨D2, hD2⟩ : ∃ D2, D2 = clk.set a (y2 + 1) := ⟨_, rfl⟩
      rw [← hy2] at b0 b1'' hbump hstep
      rw [← hD2] at hbump hstep
      obtain ⟨wd, hwd⟩ : ∃ wd, wd = rows[k].2.word := ⟨_, rfl⟩
      rw [← hwd] at hstep
      have HD2V := Lib.hid hbump.1
      have HSTEP := Lib.hid hstep
      have HAT := Lib.hid hat
      have hK0 : (0 : Int) ≤ (k : Int) := by omega
      have a0 : (0 : Int) ≤ (a : Int) := by omega
      have a5 : (a : Int) < 5 := by omega
      obtain ⟨N, hN⟩ : ∃ N, N = rows.length := ⟨_, rfl⟩
      have hKN : (k : Int) < (N : Int) := by omega
      have hNI : (N : Int) ≤ (cap : Int) := by omega
      have HHK := Lib.hid hk
      clear hbump hstep hat hk2 hwl hok hamem hrd
      have HHA := Lib.hid ha
      clear ha
      have HWD := Lib.hid hwd; have HY2 := Lib.hid hy2; have HD2 := Lib.hid hD2
      clear hwd hy2 hD2
      go_wp2_with fail
      refine HKEY.out.mono ?_
      rintro e w8 ⟨rfl, ho8⟩
      obtain ⟨c0', c1', c2', hc', hf', hpf'⟩ := ho8.cw_facts h5'
      dsimp only at c0' c1' c2' hc'
      obtain ⟨z0, z1, z2⟩ := HAT.out _ ho8 k HHK.out
      rw [HHA.out] at z0
      rw [← HWD.out] at z1
      rw [← hN] at c2'
      have d0 := hc' a ha5
      have f0 := hf' a none
      rw [← HY2.out] at d0
      have s0 := ho8.cw_bump h5' ha5 (y2 + 1)
      dsimp only at s0
      rw [← HD2.out] at s0
      obtain ⟨w9, hw9⟩ : ∃ w9, w9 = w8.setCell ⟨mb, a, none⟩ (.int .i64 (y2 + 1)) := ⟨_, rfl⟩
      rw [← hw9] at s0
      have HO9 := Lib.hid s0
      obtain ⟨k0, k1, k2, _, _, _⟩ := s0.cw_facts (c := ⟨c.me, D2, rows.map (·.2)⟩) (vecErr0 HD2V.out).1
      dsimp only at k0 k1 k2
      rw [← hN] at k2
      obtain ⟨g0, g1, g2⟩ : w9.cell? ⟨sb, so + k * 3, none⟩ = some (.int .i64 (a : Int)) ∧ w9.cell? ⟨sb, so + k * 3 + 1, none⟩ = some (.int .i64 wd) ∧ True := by
        have h1 := HO9.out.cw_at (by rw [← hN]; omega)
        obtain ⟨sb', so', cap', e, _, _, hat'⟩ := h1
        injection e with e1 _ e3
        injection e1 with e1
        injection e1 with e1 e2 _
        subst e1; subst e2; subst e3
        obtain ⟨t0, t1, _⟩ := hat' _ HO9.out k HHK.out
        rw [HHA.out] at t0
        rw [← HWD.out] at t1
        exact ⟨t0, t1, trivial⟩
      have HN := Lib.hid hN
      clear ho8 c0 c1 c2 c0' hc' hf' hpf' HKEY HR HAT s0
      rw [← hN]
      clear hN
      go_upto_region 13 with fail
      refine wp_region_tail 15 (by kernel_rfl) (by kernel_rfl) ?_
      simp only [List.take_succ_cons, List.take_zero, List.drop_succ_cons, List.drop_zero]
      repeat still_step
      refine wpStill_nil ?_
      go_upto_region 14 with fail
      rw [← hw9]
      clear hw9 c1' c2' z0 z1 d0 f0
      go_wp2_with (at_builtin; refine wpList_app rfl _ _ 57 rfl 3 1 8 _ info_int Tryz.underlying57 rfl (by decide) rfl (HO9.out.drew.second.alloc' _) rfl (by rfl) (Rd_lit (by simp) (by unfold maxLen; omega)) (by intro u hu; simp at hu; subst hu; rfl) (by unfold maxLen; omega) (by omega) ?_; intro v' w' hown; obtain ⟨m0, m1, m2, _, _, mf⟩ := hown.second.cw_facts (c := ⟨c.me, D2, rows.map (·.2)⟩) (vecErr0 HD2V.out).1; dsimp only at m0 m1 m2; rw [← HN.out] at m2; have HNA := Lib.hid hown; clear hown m0 m1 mf)
      have hsd := HNA.out.second.cw_slAt (by rw [← HN.out]; omega)
      have hdl := delSd_any sb so rows.length cap k (rows.flatMap sdCells) HHK.out HNA.out.second.cw_one hsd
      rw [← HN.out] at hdl
      refine hdl.mono ?_
      rintro e w10 ⟨rfl, ho⟩
      clear hsd hdl
      have p2 : w10.cell? ⟨p, 2, none⟩ = some (.slice (some ⟨sb, so, none⟩) N cap) := (ho.second.cell 2).trans rfl
      have pf := ho.second.free 2 none
      rw [HN.out] at ho
      have hcut := ho.cw_cut HHK.out ((rows.eraseIdx k).map (·.2))
      rw [← HN.out] at hcut
      have hfin : Own w0 (IntSl v' (out ++ [wd]) * (CwO p mb (.slice (some ⟨sb, so, none⟩) (N - 1) cap) (rows.eraseIdx k) ⟨c.me, D2, (rows.eraseIdx k).map (·.2)⟩ * (SdO b1 q s.word (.slice ad3 5 cap3) * (IntSl (.slice ad3 5 cap3) s.clk * R)))) (w10.setCell ⟨p, 2, none⟩ (.slice (some ⟨sb, so, none⟩) (N - 1) cap)) := by
        have h1 : Sl 3 1 v' (out.length + 1) (out.map (Value.int .i64) ++ [.int .i64 wd]) = IntSl v' (out ++ [wd]) := by unfold IntSl; rw [List.length_append, List.map_append]; rfl
        rw [← h1]
        exact hcut.perm (by ac_rfl)
      have HFIN := Lib.hid hfin
      have HLAST : Hid (CwInv c s (out ++ [wd]) D2 ((rows.eraseIdx k).map (·.2))) := Lib.hid (by
        rw [← map_erase]
        exact HSTEP.out)
      clear ho hcut hfin HNA m2
      go_wp2
      go_roundg (N - 1)
      case measure => have := HG.out; have := HN.out; omega
      case rel => exact Lib.hid ⟨D2, rows.eraseIdx k, out ++ [wd], _, by rw [List.length_eraseIdx_of_lt HHK.out, HN.out], HD2V.out, fun r hr => HRS.out r (List.mem_of_mem_eraseIdx hr), by rw [List.length_append, List.length_eraseIdx_of_lt HHK.out]; simp only [List.length_singleton]; omega, HLAST.out, HFIN.out⟩
end Go.Proofs.YtdfjbnfdknpahaaGreatDoor
/- Contracts of package cause, continued: Take, New, whatever comes. -/
namespace Go.Proofs.YtdfjbnfdknpahaaGreatDoor
set_option linter.unusedVariables false
set_option linter.unusedSimpArgs false
open Go.RowKit
set_option maxRecDepth 100000 in
set_option maxHeartbeats 4000000 in
theorem cwTake_any {w0 w : World} {R : HProp} (p : Nat) (c : Ca) (s : Sd) (cv : Value) (hI : CaI c) (hv : Reads w0 R cv s.clk) (h : Own w0 (CwP p c * R) w) :
    Calls Tryz.prog 78 #[.pointer (some ⟨p, 0, none⟩), .agg #[.int .i64 s.who, .int .i64 s.word, cv]] w fun e w' => ∃ v', e = .returned (.tuple #[v', errV (caErr c s)]) ∧ Own w0 (IntSl v' (caOut c s) * (CwP p (caTake c s) * R)) w' := by
  by_cases hE : caErr c s = 0
  · rw [hE]
    exact cwTake_yes p c s cv hI hE hv h
  · refine (cwTake_no p c s cv hI hE hv h).mono ?_
    rintro e w' ⟨rfl, ho⟩
    refine ⟨_, rfl, ?_⟩
    rw [show caOut c s = [] by unfold caOut; rw [if_neg hE], show caTake c s = c by unfold caTake; rw [if_neg hE]]
    exact ho.sl_nil 3 1
theorem caOut_I64 {c : Ca} {s : Sd} (hI : CaI c) : ∀ x ∈ caOut c s, I64 x := by
  intro x hx
  unfold caOut at hx
  by_cases hE : caErr c s = 0
  rotate_left
  · rw [if_neg hE] at hx; cases hx
  rw [if_pos hE] at hx
  obtain ⟨h0, _⟩ := caErr0 hE
  have key : ∀ (k : Nat) (clk : List Int) (ws : List Sd), (∀ s ∈ ws, sdErr s = 0) → ∀ x ∈ (caHear k clk ws).2.2, I64 x := by
    intro k
    induction k with
    | zero => intro clk ws _ x hx; cases hx
    | succ k ih =>
      intro clk ws hw x hx
      unfold caHear at hx
      by_cases h : ((whereI (caReady clk) ws).toNat < ws.length ∧ 0 ≤ whereI (caReady clk) ws)
      · rw [dif_pos h] at hx
        simp only at hx
        rcases List.mem_cons.1 hx with rfl | hx
        · exact isWord_I64 (sdErr0 (hw _ (List.getElem_mem h.1))).2.1
        · exact ih _ _ (fun s hs => hw s (List.mem_of_mem_eraseIdx hs)) x hx
      · rw [dif_neg h] at hx; cases hx
  by_cases hr : caReady c.clk s = true
  · rw [if_pos hr] at hx
    rcases List.mem_cons.1 hx with rfl | hx
    · exact isWord_I64 (sdErr0 h0).2.1
    · exact key _ _ _ hI.ok x hx
  · rw [if_neg hr] at hx; cases hx
theorem caSaid_ok {c : Ca} {w : Int} (hI : CaI c) (h : caSayErr c w = 0) : sdErr (caSaid c w) = 0 := by
  have h1 := (hI.say w).clk
  unfold caSay at h1
  rw [if_pos h] at h1
  unfold caSaid
  rw [if_pos h]
  unfold sdErr
  have hw : isWord w = true := by
    unfold caSayErr at h
    cases hw : isWord w
    · rw [if_pos hw] at h; cases h
    · rfl
  rw [if_neg (by rw [hI.me]; simp), if_neg (by rw [hw]; simp)]
  exact h1
end Go.Proofs.YtdfjbnfdknpahaaGreatDoor
