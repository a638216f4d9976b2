/- The reference's Cast: NewCast. -/
import Derived.Test.YtdfjbnfdknpahaaGreatDoorMRunAnswers28
import Derived.Test.YtdfjbnfdknpahaaGreatDoorMRunAnswers21
import Derived.Test.YtdfjbnfdknpahaaGreatDoorMRunAnswers20
namespace Go.Proofs.YtdfjbnfdknpahaaGreatDoor
set_option linter.unusedVariables false
set_option linter.unusedSimpArgs false
open Go.RowKit Go.Maps
theorem rn_zero (p : Nat) {w0 w : World} {R : HProp} (h : Own w0 (rnBlk p (.slice none 0 0) (List.replicate 25 false) * R) w) : Own w0 (RnP p ⟨[], []⟩ * R) w := by
  refine Own.rn_close (v := .slice none 0 0) (B := List.replicate 25 false) ⟨by simp, fun a b ha hb _ => ?_⟩ ((h.sl_nil 79 3).perm ?_)
  · rw [List.getElem?_replicate, if_pos (by omega)]
    simp
  · unfold RnO PkSl
    simp only [List.length_nil, List.flatMap_nil]
    ac_rfl
theorem Own.rc_zero' {w0 w : World} {p : Nat} {me : Int} {R : HProp} (h : Own w0 (blk p (.cells #[.int .i64 me, .int .i64 0, .int .i64 0, .int .i64 0, .int .i64 0, .int .i64 0, .slice none 0 0] 68 (0, 0)) * R) w) : Own w0 (rmP ⟨p, .slice none 0 0, [], caNew me⟩ * R) w := by
  unfold rmP RcO
  rw [List.length_nil, List.flatMap_nil, Sl_nil, star_emp]
  exact h
theorem info_rm : (Tryz.prog.info? 64).map (fun i => (i.zero, i.size, i.bytes)) = some (some (.pointer none), 1, 8) := by kernel_rfl
theorem rk_zero (nb : Nat) : Tryz.zeroCells63.setIfInBounds 1 (.pointer (some ⟨nb, 0, none⟩)) = (rkCells (.slice none 0 0) nb (List.replicate 31 nilSdR) 0 (.slice none 0 0)).toArray := by kernel_rfl
/-- The reference's group in the making. -/
def RkNn (p nb : Nat) (mv : Value) (rms : List RmR) : HProp := rkBlk p mv nb (List.replicate 31 nilSdR) 0 (.slice none 0 0) * (Sl 64 1 mv rms.length (rms.map rmV) * (starL rmP rms * RnP nb ⟨[], []⟩))
section
variable {w0 w : World} {p nb : Nat} {mv : Value} {rms : List RmR} {R : HProp}
theorem rkN_open (h : Own w0 (RkNn p nb mv rms * R) w) : Own w0 (rkBlk p mv nb (List.replicate 31 nilSdR) 0 (.slice none 0 0) * (Sl 64 1 mv rms.length (rms.map rmV) * (starL rmP rms * (RnP nb ⟨[], []⟩ * R)))) w := h.perm (by unfold RkNn; ac_rfl)
theorem rkN_app {r : RmR} (h : Own w0 (rmP r * (RkNn p nb mv rms * R)) w) : Own w0 (Sl 64 1 mv rms.length (rms.map rmV) * (rkBlk p mv nb (List.replicate 31 nilSdR) 0 (.slice none 0 0) * (starL rmP rms * (RnP nb ⟨[], []⟩ * (rmP r * R))))) w := h.perm (by unfold RkNn; ac_rfl)
theorem rkN_push {r : RmR} {v' : Value}
    (h : Own w0 (Sl 64 1 v' (rms.length + 1) (rms.map rmV ++ [rmV r]) * (rkBlk p mv nb (List.replicate 31 nilSdR) 0 (.slice none 0 0) * (starL rmP rms * (RnP nb ⟨[], []⟩ * (rmP r * R))))) w) :
    Own w0 (RkNn p nb v' (rms ++ [r]) * R) (w.setCell ⟨p, 0, none⟩ v') := by
  have h1 := h.second.rkb_mem v'
  refine h1.perm ?_
  unfold RkNn
  rw [starL_snoc, List.length_append, List.map_append]
  simp only [List.length_singleton, List.map_cons, List.map_nil]
  ac_rfl
theorem starL_reps (n : Nat) : starL sdRow (List.replicate n nilSdR) = emp := by
  induction n with
  | zero => rfl
  | succ n ih => rw [List.replicate_succ]; simp only [starL]; rw [sdRow_nil, ih, emp_star]
theorem rkN_done {n : Nat} (hn : 0 < rms.length) (hl : rms.map (·.m) = (List.range n).map fun i : Nat => caNew (i : Int)) (hr : ∀ r ∈ rms, r.rows = [] ∧ r.m.waits = []) (h : Own w0 (RkNn p nb mv rms * R) w) : Own w0 (RkP p (csNew n) * R) w := by
  obtain ⟨b, off, cap, rfl, h2⟩ := (rkN_open h).second.slAt (by simpa using hn)
  refine Own.rk_close (mb := b) (off := off) (cap := cap) (nb := nb) (hv := .slice none 0 0) (S := List.replicate 31 nilSdR) (rms := rms) ⟨hl, fun r hr' => ?_, by simp, fun w hw => ?_⟩ ((h2.sl_nil 112 3).perm ?_)
  · obtain ⟨a, b⟩ := hr r hr'
    rw [a, b]
    exact ⟨rfl, fun x hx => by cases hx⟩
  · rw [List.getElem_replicate]; rfl
  unfold RkO TabO EvSl
  rw [starL_reps]
  show _ = rkBlk p _ nb _ ((0 : Nat) : Int) _ * (_ * (RnP nb ⟨[], []⟩ * (emp * Sl 112 3 (.slice none 0 0) 0 []))) * R
  rw [emp_star]
  ac_rfl
end
set_option maxRecDepth 100000 in
set_option maxHeartbeats 4000000 in
theorem rkNew_any {w0 w : World} {R : HProp} (n : Nat) (h2 : 2 ≤ n) (h5 : n ≤ 5) (h : Own w0 R w) :
    Calls Tryz.prog 8 #[.int .i64 (n : Int)] w fun e w' => ∃ p, e = .returned (.pointer (some ⟨p, 0, none⟩)) ∧ Own w0 (RkP p (csNew n) * R) w' := by
  obtain ⟨nb, hb_nb⟩ : ∃ zz_, zz_ = (w).heap.size := ⟨_, rfl⟩
  obtain ⟨w1, hw_w1⟩ : ∃ zz_, zz_ = (w).alloc (.cells #[.slice none 0 0, .bool false, .bool false, .bool false, .bool false, .bool false, .bool false, .bool false, .bool false, .bool false, .bool false, .bool false, .bool false, .bool false, .bool false, .bool false, .bool false, .bool false, .bool false, .bool false, .bool false, .bool false, .bool false, .bool false, .bool false, .bool false] 55 (0, 0)) := ⟨_, rfl⟩
  have h_HB1 := (h).alloc (.cells #[.slice none 0 0, .bool false, .bool false, .bool false, .bool false, .bool false, .bool false, .bool false, .bool false, .bool false, .bool false, .bool false, .bool false, .bool false, .bool false, .bool false, .bool false, .bool false, .bool false, .bool false, .bool false, .bool false, .bool false, .bool false, .bool false, .bool false] 55 (0, 0))
  rw [← hb_nb, ← hw_w1] at h_HB1
  have HB1 := Lib.hid h_HB1
  clear h_HB1
  have hz := rk_zero nb
  obtain ⟨p, hb_p⟩ : ∃ zz_, zz_ = (w1).heap.size := ⟨_, rfl⟩
  obtain ⟨w2, hw_w2⟩ : ∃ zz_, zz_ = (w1).alloc (.cells (rkCells (.slice none 0 0) nb (List.replicate 31 nilSdR) 0 (.slice none 0 0)).toArray 63 (0, 0)) := ⟨_, rfl⟩
  have h_HB2 := (HB1.out).alloc (.cells (rkCells (.slice none 0 0) nb (List.replicate 31 nilSdR) 0 (.slice none 0 0)).toArray 63 (0, 0))
  rw [← hb_p, ← hw_w2] at h_HB2
  have HB2 := Lib.hid h_HB2
  clear h_HB2
  have HN : Hid (Own w0 (RkNn p nb (.slice none 0 0) [] * R) w2) := Lib.hid (by
    have h1 := rn_zero nb (HB2.out.second.perm (show _ = rnBlk nb (.slice none 0 0) (List.replicate 25 false) * _ from rfl))
    refine (h1.sl_nil 64 1).perm ?_
    unfold RkNn rkBlk
    simp only [starL, List.length_nil, List.map_nil]
    rw [emp_star]
    ac_rfl)
  clear HB1 HB2
  have H := Lib.hid h; have HZ := Lib.hid hz
  clear h hz
  go_enter Tryz.func8, Tryz.ntmps8
  go_upto_block 0 with fail
  rw [← hb_nb, HZ.out]
  have hq_p : nb + 1 = p := by rw [hb_p, hw_w1, hb_nb, World.size_alloc]
  rw [hq_p, ← hw_w1, ← hw_w2]
  clear hq_p hb_p hw_w1 hb_nb hw_w2
  generalize (rkCells (.slice none 0 0) nb (List.replicate 31 nilSdR) 0 (.slice none 0 0)).toArray = Z
  go_wp2_with fail
  go_loopw [4] (fun iv wr => ∃ (k : Nat) (mv : Value) (rms : List RmR), k ≤ n ∧ iv = .int .i64 k ∧ Hid (rms.length = k ∧ rms.map (·.m) = ((List.range k).map fun i : Nat => caNew (i : Int)) ∧ ∀ r ∈ rms, r.rows = [] ∧ r.m.waits = []) ∧ Hid (Own w0 (RkNn p nb mv rms * R) wr)) (fun iv _ => n - (intOf iv).toNat)
  case atStart => exact ⟨0, _, [], Nat.zero_le _, rfl, Lib.hid ⟨rfl, rfl, fun r hr => by cases hr⟩, HN⟩
  case round =>
    clear HN
    obtain ⟨k, mv, rms, hk, rfl, HRS, HPP⟩ := hrel
    by_cases hlt : k < n
    rotate_left
    · have hkn : k = n := by omega
      subst hkn
      go_wp2
      go_ret
      exact ⟨p, rfl, rkN_done (by have := HRS.out.1; omega) HRS.out.2.1 HRS.out.2.2 HPP.out⟩
    have hrl : rms.length = k := HRS.out.1
    have h1 := HPP.out.alloc (.cells #[.int .i64 (k : Int), .int .i64 0, .int .i64 0, .int .i64 0, .int .i64 0, .int .i64 0, .slice none 0 0] 68)
    have h3 := rkN_app (Own.rc_zero' h1)
    have c1 : wr.cell? ⟨p, 0, none⟩ = some mv := ((rkN_open HPP.out).rkb_facts (by simp)).1
    obtain ⟨ad, cp, hmv, _⟩ := Own.rd h3
    subst hmv
    have HAP := Lib.hid h3
    clear h1 h3
    have HRL := Lib.hid hrl
    clear hrl
    go_wp2_with (at_builtin; refine wpList_app rfl _ _ 56 rfl 64 1 8 _ info_rm Tryz.underlying56 rfl (by decide) rfl (HAP.out.alloc' _) rfl (by rfl) (Rd_lit (by simp) (by unfold maxLen; omega)) (by intro u hu; simp at hu; subst hu; rfl) (by have := HRL.out; unfold maxLen; omega) (by have := HRL.out; omega) ?_; intro v' w3 ho3; obtain ⟨ad', cp', hv', _⟩ := Own.rd ho3; subst hv'; have g1 := (ho3.second.rkb_facts (by simp)).1; have g2 := (ho3.second.rkb_facts (by simp)).2.2.2.2.1 0 none; have HW := Lib.hid (rkN_push (r := ⟨wr.heap.size, .slice none 0 0, [], caNew (k : Int)⟩) ho3); clear ho3)
    go_round
    case rel =>
      refine ⟨k + 1, _, _, by omega, by go_num, Lib.hid ⟨by simp [HRL.out], ?_, fun r hr => ?_⟩, HW⟩
      · rw [List.map_append, HRS.out.2.1, List.range_succ, List.map_append]
        rfl
      · rcases List.mem_append.1 hr with hr | hr
        · exact HRS.out.2.2 r hr
        · rw [List.mem_singleton.1 hr]; exact ⟨rfl, rfl⟩
    case measure => simp [intOf]; omega
end Go.Proofs.YtdfjbnfdknpahaaGreatDoor
/- The reference's Cast: Say. -/
namespace Go.Proofs.YtdfjbnfdknpahaaGreatDoor
set_option linter.unusedVariables false
set_option linter.unusedSimpArgs false
open Go.RowKit Go.Maps
theorem mem_set_ne {α : Type} {S : List α} {k : Nat} (hk : k < S.length) {x r : α} (hx : x ∈ S) (hne : x ≠ S[k]) : x ∈ S.set k r := by
  obtain ⟨j, hj, rfl⟩ := List.mem_iff_getElem.1 hx
  have hjk : k ≠ j := by rintro rfl; exact hne rfl
  rw [List.mem_iff_getElem]
  exact ⟨j, by simpa using hj, by rw [List.getElem_set, if_neg hjk]⟩
theorem csSd_word {c : Cs} (hI : CsI c) (w : Int) : (csSd c w).word = if (mget c.said w).isSome = true then w else 0 := by
  unfold csSd
  cases h : mget c.said w with
  | none => rfl
  | some s =>
    have h2 := (hI.sd h).2.1
    rw [Option.getD_some, h2, Option.isSome_some, if_pos rfl]
/-- What stands behind a word that was said. -/
theorem RkIs.say {S : List SdR} {rms : List RmR} {c : Cs} (he : RkIs S rms c) (hI : CsI c) {k : Nat} (hk : k < rms.length) {wn : Nat} (hE : csSayErr c (k : Int) (wn : Int) = 0) (hwn : wn < S.length) (v : Value) (vv : Value) :
    RkIs (S.set wn (v, caSaid rms[k].m (wn : Int))) (rms.set k ⟨rms[k].q, vv, rms[k].rows, caSay rms[k].m (wn : Int)⟩) (csSay c (k : Int) (wn : Int)) := by
  have hk' : k < c.mem.length := by rw [← he.memLen]; exact hk
  have hm : csMem c (k : Int) = rms[k].m := by
    rw [csMem_at hk']
    have e : c.mem[k]? = some rms[k].m := by rw [← he.mem, List.getElem?_map, List.getElem?_eq_getElem hk]; rfl
    exact (List.getElem?_eq_some_iff.1 e).2
  obtain ⟨_, hwd, hno, _⟩ := csSayErr0 hE
  have hS0 : S[wn].2 = nilSd := by rw [he.said wn hwn]; unfold csSd; rw [hno]; rfl
  have hkeep : ∀ x ∈ S, isWord x.2.word = true → x ∈ S.set wn (v, caSaid rms[k].m (wn : Int)) := fun x hx hw => by
    refine mem_set_ne hwn hx ?_
    rintro rfl
    rw [hS0] at hw
    simp [nilSd, isWord] at hw
  have hrow : ∀ r ∈ rms, ∀ x ∈ r.rows, x ∈ S.set wn (v, caSaid rms[k].m (wn : Int)) := fun r hr x hx => by
    obtain ⟨h1, h2⟩ := he.rows r hr
    refine hkeep x (h2 x hx) ?_
    obtain ⟨j, hj, rfl⟩ := List.mem_iff_getElem.1 hr
    have hj' : j < c.mem.length := by rw [← he.memLen]; exact hj
    have hmj : c.mem[j] = rms[j].m := by
      have e : c.mem[j]? = some rms[j].m := by rw [← he.mem, List.getElem?_map, List.getElem?_eq_getElem hj]; rfl
      exact (List.getElem?_eq_some_iff.1 e).2
    have h3 : x.2 ∈ c.mem[j].waits := by rw [hmj, ← h1]; exact List.mem_map.2 ⟨x, hx, rfl⟩
    exact (hI.sd ((hI.mem j hj').waits _ h3)).1
  unfold csSay
  rw [if_pos hE, hm, Int.toNat_natCast]
  refine ⟨?_, fun r hr => ?_, by simpa using he.len, fun w hw => ?_⟩
  · rw [List.map_set, he.mem]
  · rcases List.mem_or_eq_of_mem_set hr with hr | rfl
    · exact ⟨(he.rows r hr).1, hrow r hr⟩
    · have h1 := he.rows rms[k] (List.getElem_mem hk)
      exact ⟨by rw [(caSay_w _ _).1]; exact h1.1, hrow rms[k] (List.getElem_mem hk)⟩
  · have hw' : w < S.length := by simpa using hw
    rw [List.getElem_set]
    unfold csSd
    show _ = (mget (mput c.said (wn : Int) (caSaid rms[k].m (wn : Int))) (w : Int)).getD nilSd
    rw [mget_mput]
    by_cases e : wn = w
    · subst e; rw [if_pos rfl, if_pos rfl]; rfl
    · rw [if_neg e, if_neg (by omega)]; exact he.said w hw'
section
variable {w0 w : World} {p mb off cap nb k : Nat} {hv : Value} {S : List SdR} {rms : List RmR} {c : Cs} {R : HProp}
/-- One member of the reference's group out. -/
theorem Own.rk_take {k : Nat} (hk : k < rms.length) (h : Own w0 (RkO p mb off cap nb hv S rms c * R) w) :
    Own w0 (rmP rms[k] * (SlAt 64 1 mb off rms.length cap (rms.map rmV) * (starL rmP (rms.eraseIdx k) * (rkBlk p (.slice (some ⟨mb, off, none⟩) rms.length cap) nb S (c.said.length : Int) hv * (RnP nb c.net * (starL sdRow S * (EvSl hv c.hist * R))))))) w :=
  h.rk_tab.tab_take hk
theorem rk_mem_set {k : Nat} (hk : k < rms.length) (vv : Value) (rows : List SdR) (m : Ca) : (rms.set k ⟨rms[k].q, vv, rows, m⟩).map rmV = rms.map rmV := by
  rw [List.map_set]
  have : rmV ⟨rms[k].q, vv, rows, m⟩ = (rms.map rmV)[k]'(by simpa using hk) := by simp [rmV]
  rw [this, List.set_getElem_self]
theorem rk_say_close {wn : Nat} {v vv : Value} (he : RkIs S rms c) (hI : CsI c) (hk : k < rms.length) (hE : csSayErr c (k : Int) (wn : Int) = 0) (hwn : wn < S.length)
    (h : Own w0 (RnP nb (csNet c c.mem.length (k : Int) (wn : Int)) * (rkBlk p (.slice (some ⟨mb, off, none⟩) rms.length cap) nb (S.set wn (v, caSaid rms[k].m (wn : Int))) ((c.said.length : Int) + 1) hv * (rmP ⟨rms[k].q, vv, rms[k].rows, caSay rms[k].m (wn : Int)⟩ * (SlAt 64 1 mb off rms.length cap (rms.map rmV) * (starL rmP (rms.eraseIdx k) * (starL sdRow (S.set wn (v, caSaid rms[k].m (wn : Int))) * (EvSl hv (c.hist ++ [((k : Int), 2, (wn : Int))]) * R))))))) w) :
    Own w0 (RkP p (csSay c (k : Int) (wn : Int)) * R) w := by
  have hl : ((csSay c (k : Int) (wn : Int)).said.length : Int) = (c.said.length : Int) + 1 := by
    unfold csSay
    rw [if_pos hE]
    show ((mput c.said _ _).length : Int) = _
    rw [mput_len_new (csSayErr0 hE).2.2.1]; omega
  refine Own.rk_close (mb := mb) (off := off) (cap := cap) (nb := nb) (hv := hv) (he.say hI hk hE hwn v vv) (h.perm ?_)
  unfold RkO TabO
  rw [hl, rk_mem_set hk, starL_set rmP rms k hk, List.length_set]
  have e1 : (csSay c (k : Int) (wn : Int)).net = csNet c c.mem.length (k : Int) (wn : Int) := by unfold csSay; rw [if_pos hE]; rfl
  have e2 : (csSay c (k : Int) (wn : Int)).hist = c.hist ++ [((k : Int), 2, (wn : Int))] := by unfold csSay; rw [if_pos hE]
  rw [e1, e2]
  ac_rfl
end
set_option maxRecDepth 100000 in
set_option maxHeartbeats 4000000 in
theorem rkSay_no {w0 w : World} {R : HProp} (p : Nat) (c : Cs) (who word : Int) (hI : CsI c) (hE : csSayErr c who word = 1 ∨ csSayErr c who word = 7) (h : Own w0 (RkP p c * R) w) :
    Calls Tryz.prog 19 #[.pointer (some ⟨p, 0, none⟩), .int .i64 who, .int .i64 word] w fun e w' => e = .returned (.int .i64 (csSayErr c who word : Nat)) ∧ Own w0 (RkP p c * R) w' := by
  obtain ⟨mb, off, cap, nb, hv, S, rms, he, ho⟩ := h.rk_open
  obtain ⟨c0, c1, c2, c3, _, _, hc1, hc2⟩ := ho.rk_facts he
  have hsx := (ho.rk_blk.rkb_facts he.len).2.2.2.2.2
  have hn2 := hI.n2
  have hn5 := hI.n5
  rw [← he.memLen] at hn2 hn5
  obtain ⟨N, hN⟩ : ∃ N, N = rms.length := ⟨_, rfl⟩
  rw [← hN] at c0 hn2 hn5 hc1
  have hNm : c.mem.length = N := by rw [← he.memLen, hN]
  obtain ⟨E, hE'⟩ : ∃ E, E = csSayErr c who word := ⟨_, rfl⟩
  rw [← hE'] at hE ⊢
  unfold csSayErr at hE'
  rw [hNm] at hE'
  by_cases hb : inR who N = true ∧ isWord word = true
  rotate_left
  · have hE1 : E = 1 := by
      rw [hE']
      cases h1 : inR who N
      · rfl
      cases h2 : isWord word
      · rfl
      exact absurd ⟨h1, h2⟩ hb
    have hcs : who < 0 ∨ (¬ who < 0 ∧ (N : Int) ≤ who) ∨ (¬ who < 0 ∧ ¬ (N : Int) ≤ who ∧ word < 1) ∨ (¬ who < 0 ∧ ¬ (N : Int) ≤ who ∧ ¬ word < 1 ∧ 30 < word) := by
      simp [inR, isWord] at hb; omega
    subst hE1
    clear hE' hsx
    have H := Lib.hid h; have HI := Lib.hid hI; have HE := Lib.hid hE; have HO := Lib.hid ho; have HE := Lib.hid he; have HN := Lib.hid hN; have HNM := Lib.hid hNm; have HB := Lib.hid hb
    clear h hI hE ho he hN hNm hb
    rcases hcs with h1 | ⟨h1, h2⟩ | ⟨h1, h2, h3⟩ | ⟨h1, h2, h3, h4⟩
    all_goals
      go_enter Tryz.func19, Tryz.ntmps19
      go_wp2
      go_ret
      exact ⟨rfl, H.out⟩
  obtain ⟨hin, hwd⟩ := hb
  rw [hin, hwd, if_neg (by simp), if_neg (by simp)] at hE'
  have hib : 0 ≤ who ∧ who < (N : Int) := by simpa [inR] using hin
  have hwb : 1 ≤ word ∧ word ≤ 30 := by simpa [isWord] using hwd
  cases hsm : (mget c.said word).isSome
  · rw [hsm, if_neg (by simp)] at hE'
    exfalso
    split at hE' <;> omega
  rw [hsm, if_pos rfl] at hE'
  obtain ⟨wn, rfl⟩ : ∃ wn : Nat, word = (wn : Int) := ⟨word.toNat, by omega⟩
  have hwl : wn < S.length := by rw [he.len]; omega
  obtain ⟨_, s1, _⟩ := hsx wn hwl
  have hsw : S[wn].2.word = (wn : Int) := by rw [he.said wn hwl, csSd_word hI, hsm, if_pos rfl]
  rw [hsw] at s1
  have t1 : ((wn : Int) != 0) = true := by rw [bne_iff_ne]; omega
  have w0' : (0 : Int) ≤ (wn : Int) := by omega
  have w31 : (wn : Int) < 31 := by omega
  subst hE'
  clear hsx
  have H := Lib.hid h; have HI := Lib.hid hI; have HE := Lib.hid hE; have HO := Lib.hid ho; have HE := Lib.hid he; have HN := Lib.hid hN; have HNM := Lib.hid hNm; have HIN := Lib.hid hin; have HWD := Lib.hid hwd; have HSM := Lib.hid hsm; have HSW := Lib.hid hsw
  clear h hI hE ho he hN hNm hin hwd hsm hsw
  go_enter Tryz.func19, Tryz.ntmps19
  go_wp2
  go_ret
  exact ⟨rfl, H.out⟩
end Go.Proofs.YtdfjbnfdknpahaaGreatDoor
/- The reference's Cast: Give. -/
namespace Go.Proofs.YtdfjbnfdknpahaaGreatDoor
set_option linter.unusedVariables false
set_option linter.unusedSimpArgs false
open Go.RowKit Go.Maps
theorem starL_reads {w0 w : World} {S : List SdR} {Q : HProp} (h : Own w0 (starL sdRow S * Q) w) {x : SdR} (hx : x ∈ S) (hI : ∀ y ∈ x.2.clk, I64 y) : Ints w x.1 x.2.clk := by
  obtain ⟨j, hj, rfl⟩ := List.mem_iff_getElem.1 hx
  rw [starL_split sdRow S j hj, star_assoc] at h
  exact IntSl_reads hI _ h
theorem RkIs.give {S : List SdR} {rms : List RmR} {c : Cs} (he : RkIs S rms c) {k : Nat} (hk : k < rms.length) {i : Int} (hE : csGiveErr c i = 0) (hto : (ntAt c.net i).2.1 = (k : Int)) {vv : Value} {rows : List SdR} {m : Ca} (hm : m = caTake (csGm c i) (csGs c i)) (h1 : rows.map (·.2) = m.waits) (h2 : ∀ x ∈ rows, x ∈ S) :
    RkIs S (rms.set k ⟨rms[k].q, vv, rows, m⟩) (csGive c i) := by
  unfold csGive
  rw [if_pos hE, hto, Int.toNat_natCast]
  refine ⟨by rw [List.map_set, he.mem, hm], fun r hr => ?_, he.len, he.said⟩
  rcases List.mem_or_eq_of_mem_set hr with hr | rfl
  · exact he.rows r hr
  · exact ⟨h1, h2⟩
section
variable {w0 w : World} {p mb off cap nb k : Nat} {hv : Value} {S : List SdR} {rms : List RmR} {c : Cs} {R : HProp}
theorem rk_give_close {i : Int} {vv : Value} {rows : List SdR} {m : Ca} {hh : List Ev} (he : RkIs S rms c) (hk : k < rms.length) (hE : csGiveErr c i = 0) (hto : (ntAt c.net i).2.1 = (k : Int)) (hm : m = caTake (csGm c i) (csGs c i)) (hhh : hh = hearEv (k : Int) (caOut (csGm c i) (csGs c i))) (h1 : rows.map (·.2) = m.waits) (h2 : ∀ x ∈ rows, x ∈ S)
    (h : Own w0 (rmP ⟨rms[k].q, vv, rows, m⟩ * (RnP nb (ntOut c.net i) * (rkBlk p (.slice (some ⟨mb, off, none⟩) rms.length cap) nb S (c.said.length : Int) hv * (SlAt 64 1 mb off rms.length cap (rms.map rmV) * (starL rmP (rms.eraseIdx k) * (starL sdRow S * (EvSl hv (c.hist ++ hh) * R))))))) w) :
    Own w0 (RkP p (csGive c i) * R) w := by
  refine Own.rk_close (mb := mb) (off := off) (cap := cap) (nb := nb) (hv := hv) (he.give hk hE hto (vv := vv) hm h1 h2) (h.perm ?_)
  have e1 : (csGive c i).said = c.said := by unfold csGive; rw [if_pos hE]
  have e2 : (csGive c i).net = ntOut c.net i := by unfold csGive; rw [if_pos hE]
  have e3 : (csGive c i).hist = c.hist ++ hh := by unfold csGive; rw [if_pos hE, hto, hhh]; rfl
  unfold RkO TabO
  rw [e1, e2, e3, rk_mem_set hk, starL_set rmP rms k hk, List.length_set]
  ac_rfl
end
set_option maxRecDepth 100000 in
set_option maxHeartbeats 4000000 in
theorem rkGive_no {w0 w : World} {R : HProp} (p : Nat) (c : Cs) (i : Int) (hI : CsI c) (hE : csGiveErr c i ≠ 0) (h : Own w0 (RkP p c * R) w) :
    Calls Tryz.prog 21 #[.pointer (some ⟨p, 0, none⟩), .int .i64 i] w fun e w' => e = .returned (.tuple #[.slice none 0 0, .int .i64 (csGiveErr c i : Nat)]) ∧ Own w0 (RkP p c * R) w' := by
  obtain ⟨mb, off, cap, nb, hv, S, rms, he, ho⟩ := h.rk_open
  obtain ⟨c0, c1, c2, c3, _⟩ := ho.rk_facts he
  have HO := Lib.hid ho.rk_net
  have HGV := Lib.hid (rnGive_any nb c.net i hI.net HO.out)
  have hE' : ntGiveErr c.net i ≠ 0 := hE
  have hgv0 : ntGiven c.net i = (0, 0, 0) := by unfold ntGiven; rw [if_neg hE']
  have hgs : ntGive c.net i = c.net := by unfold ntGive; rw [if_neg hE']
  have hEE : csGiveErr c i = ntGiveErr c.net i := rfl
  obtain ⟨E, hEx⟩ : ∃ E, E = csGiveErr c i := ⟨_, rfl⟩
  rw [hgv0, hgs, ← hEE, ← hEx] at HGV
  rw [← hEx] at hE ⊢
  unfold evV at HGV
  have t1 : ((E : Int) != 0) = true := by rw [bne_iff_ne]; omega
  have HE_ := Lib.hid he
  clear he ho
  have H := Lib.hid h; have HI := Lib.hid hI; have HE := Lib.hid hE; have HE' := Lib.hid hE'; have HGV0 := Lib.hid hgv0; have HGS := Lib.hid hgs; have HEE := Lib.hid hEE; have HEX := Lib.hid hEx
  clear h hI hE hE' hgv0 hgs hEE hEx
  go_enter Tryz.func21, Tryz.ntmps21
  go_wp2_with fail
  refine HGV.out.mono ?_
  rintro e w2 ⟨rfl, ho⟩
  have HO2 := Lib.hid ho
  clear ho c0 c1 c2 c3
  go_wp2
  go_ret2
  exact ⟨rfl, Own.rk_close (c := c) HE_.out (Own.rk_net_put (c := c) (HO2.out.alloc' _))⟩
set_option maxRecDepth 100000 in
set_option maxHeartbeats 4000000 in
theorem rkGive_yes {w0 w : World} {R : HProp} (p : Nat) (c : Cs) (i : Int) (hI : CsI c) (hb : c.hist.length ≤ 100000) (hE : csGiveErr c i = 0) (h : Own w0 (RkP p c * R) w) :
    Calls Tryz.prog 21 #[.pointer (some ⟨p, 0, none⟩), .int .i64 i] w fun e w' => ∃ v', e = .returned (.tuple #[v', .int .i64 0]) ∧ Own w0 (IntSl v' (csGiven c i) * (RkP p (csGive c i) * R)) w' := by
  obtain ⟨mb, off, cap, nb, hv, S, rms, he, ho⟩ := h.rk_open
  obtain ⟨c0, c1, c2, c3, _, _, hc1, hc2⟩ := ho.rk_facts he
  obtain ⟨k, hk, hto, hgm, hgs, hne⟩ := hI.given hE
  have hkr : k < rms.length := by rw [he.memLen]; exact hk
  have hmk : rms[k].m = c.mem[k] := by
    have e : c.mem[k]? = some rms[k].m := by rw [← he.mem, List.getElem?_map, List.getElem?_eq_getElem hkr]; rfl
    exact (List.getElem?_eq_some_iff.1 e).2.symm
  have hmI := (hI.mem k hk).ok
  obtain ⟨hwd, hsw, hsd, _, _⟩ := hI.sd hgs
  have hn5 := hI.n5
  rw [← he.memLen] at hn5
  have HO := Lib.hid ho.rk_net
  have HGV := Lib.hid (rnGive_any nb c.net i hI.net HO.out)
  have hEn : ntGiveErr c.net i = 0 := hE
  have hgv0 : ntGiven c.net i = ntAt c.net i := by unfold ntGiven; rw [if_pos hEn]
  have hgn : ntGive c.net i = ntOut c.net i := by unfold ntGive; rw [if_pos hEn]
  obtain ⟨P, hP⟩ : ∃ P, P = ntAt c.net i := ⟨_, rfl⟩
  rw [hgv0, hgn, hEn, ← hP] at HGV
  obtain ⟨pa, pb, pw0⟩ := P
  unfold evV at HGV
  have hpb : pb = (k : Int) := by rw [← hto, ← hP]
  subst hpb
  have hpw : (ntAt c.net i).2.2 = pw0 := by rw [← hP]
  rw [hpw] at hgs hwd hsw
  have hwb : 1 ≤ pw0 ∧ pw0 ≤ 30 := by simpa [isWord] using hwd
  obtain ⟨pw, rfl⟩ : ∃ n : Nat, pw0 = (n : Int) := ⟨pw0.toNat, by omega⟩
  dsimp only at HGV
  have hpl : pw < S.length := by rw [he.len]; omega
  obtain ⟨m, hm⟩ : ∃ m, m = csGm c i := ⟨_, rfl⟩
  obtain ⟨s, hs⟩ : ∃ s, s = csGs c i := ⟨_, rfl⟩
  rw [← hm] at hgm
  rw [← hs] at hgs hsd hne hsw
  rw [← hgm] at hmk hmI
  have hSs : S[pw].2 = s := by rw [he.said pw hpl]; unfold csSd; rw [hgs]; rfl
  obtain ⟨N, hN⟩ : ∃ N, N = rms.length := ⟨_, rfl⟩
  rw [← hN] at c0 hc1 hn5
  have hkN : k < N := by rw [hN]; exact hkr
  obtain ⟨rm, hrm⟩ : ∃ r, r = rms[k] := ⟨_, rfl⟩
  obtain ⟨r0, hr0⟩ : ∃ r, r = S[pw] := ⟨_, rfl⟩
  have hrI : ∀ x ∈ S, isWord x.2.word = true → ∀ y ∈ x.2.clk, I64 y := fun x hx hw => by
    obtain ⟨j, hj, rfl⟩ := List.mem_iff_getElem.1 hx
    have h1 := he.said j hj
    have h2 := csSd_word hI (j : Int)
    rw [← h1] at h2
    cases h3 : mget c.said (j : Int) with
    | none => rw [h3] at h2; rw [h2] at hw; simp [isWord] at hw
    | some x =>
      have h4 : S[j].2 = x := by rw [h1]; unfold csSd; rw [h3]; rfl
      rw [h4]
      exact vecErr_I64 (sdErr0 (hI.sd h3).2.2.1).2.2
  have hrows : ∀ x ∈ rm.rows, x ∈ S ∧ isWord x.2.word = true := fun x hx => by
    obtain ⟨h1, h2⟩ := he.rows rms[k] (List.getElem_mem hkr)
    rw [hrm] at hx
    refine ⟨h2 x hx, ?_⟩
    have h3 : x.2 ∈ m.waits := by rw [← hmk, ← h1]; exact List.mem_map.2 ⟨x, hx, rfl⟩
    rw [hgm] at h3
    exact (hI.sd ((hI.mem k hk).waits _ h3)).1
  have hrw : rm.rows.map (·.2) = m.waits := by rw [hrm, ← hmk]; exact (he.rows rms[k] (List.getElem_mem hkr)).1
  have HE_ := Lib.hid he
  have HMK := Lib.hid hmk
  have HN' := Lib.hid hN
  have HP := Lib.hid hP
  have HM := Lib.hid hm
  have HS := Lib.hid hs
  have HRM := Lib.hid hrm
  have HR0 := Lib.hid hr0
  have HSS := Lib.hid hSs
  clear he ho hmk hN hP hm hs hgs hgm hpw hrm hr0 hSs
  have HBN : Hid (c.hist.length ≤ 100000) := Lib.hid hb
  have H := Lib.hid h; have HI := Lib.hid hI; have HE := Lib.hid hE; have HEN := Lib.hid hEn; have HGV0 := Lib.hid hgv0; have HGN := Lib.hid hgn; have HTO := Lib.hid hto; have HNE := Lib.hid hne; have HMI := Lib.hid hmI; have HSD := Lib.hid hsd; have HRI := Lib.hid hrI; have HROWS := Lib.hid hrows; have HRW := Lib.hid hrw; have HSW := Lib.hid hsw; have HWD := Lib.hid hwd
  clear h hI hE hEn hgv0 hgn hto hne hmI hsd hrI hrows hrw hsw hwd
  go_enter Tryz.func21, Tryz.ntmps21
  go_wp2_with fail
  refine HGV.out.mono ?_
  rintro e w2 ⟨rfl, ho⟩
  obtain ⟨b6, hb_b6⟩ : ∃ zz_, zz_ = (w2).heap.size := ⟨_, rfl⟩
  obtain ⟨w3, hw_w3⟩ : ∃ zz_, zz_ = (w2).alloc (.cells #[.int .i64 pa, .int .i64 (k : Int), .int .i64 (pw : Int)] 79 (0, 0)) := ⟨_, rfl⟩
  have h_HB3 := (ho).alloc (.cells #[.int .i64 pa, .int .i64 (k : Int), .int .i64 (pw : Int)] 79 (0, 0))
  rw [← hb_b6, ← hw_w3] at h_HB3
  have HB3 := Lib.hid h_HB3
  clear h_HB3
  have HO3 : Hid (Own w0 (RkO p mb off cap nb hv S rms { c with net := ntOut c.net i } * (PkO b6 (pa, (k : Int), (pw : Int)) * R)) w3) := Lib.hid (Own.rk_net_put (c := c) HB3.out.to6)
  obtain ⟨x0, x1, x2⟩ := (HO3.out.second.perm rfl : Own w0 (PkO b6 (pa, (k : Int), (pw : Int)) * _) w3).pk
  dsimp only at x0 x1 x2
  have he2 : RkIs S rms { c with net := ntOut c.net i } := ⟨HE_.out.mem, HE_.out.rows, HE_.out.len, HE_.out.said⟩
  obtain ⟨d0, d1, d2, d3, _, d5, _, _⟩ := HO3.out.rk_facts he2
  rw [← HN'.out] at d0
  have e5 : w3.cell? ⟨mb, off + k, none⟩ = some (.pointer (some ⟨rm.q, 0, none⟩)) := by rw [HRM.out]; exact d5 k rms[k] (by simp [hkr])
  obtain ⟨s0, s1, s2⟩ := (HO3.out.rk_blk.rkb_facts HE_.out.len).2.2.2.2.2 pw hpl
  rw [← HR0.out] at s0 s1 s2
  have hr2 : r0.2 = s := by rw [HR0.out]; exact HSS.out
  rw [hr2] at s0 s1
  have hr0I : ∀ y ∈ s.clk, I64 y := vecErr_I64 (sdErr0 HSD.out).2.2
  have ht : Own w0 (rmP rm * (SlAt 64 1 mb off rms.length cap (rms.map rmV) * (starL rmP (rms.eraseIdx k) * (rkBlk p (.slice (some ⟨mb, off, none⟩) rms.length cap) nb S (c.said.length : Int) hv * (RnP nb (ntOut c.net i) * (starL sdRow S * (EvSl hv c.hist * (PkO b6 (pa, (k : Int), (pw : Int)) * R)))))))) w3 := by
    rw [HRM.out]
    exact HO3.out.rk_take hkr
  obtain ⟨FR, hFR⟩ : ∃ FR, FR = (SlAt 64 1 mb off rms.length cap (rms.map rmV) * (starL rmP (rms.eraseIdx k) * (rkBlk p (.slice (some ⟨mb, off, none⟩) rms.length cap) nb S (c.said.length : Int) hv * (RnP nb (ntOut c.net i) * (starL sdRow S * (EvSl hv c.hist * (PkO b6 (pa, (k : Int), (pw : Int)) * R))))))) := ⟨_, rfl⟩
  have hfs : ∀ w', Own w0 FR w' → ∀ x ∈ S, (∀ y ∈ x.2.clk, I64 y) → Ints w' x.1 x.2.clk := fun w' h' x hx hy => by
    rw [hFR] at h'
    exact starL_reads (h'.perm (show _ = starL sdRow S * (SlAt 64 1 mb off rms.length cap (rms.map rmV) * (starL rmP (rms.eraseIdx k) * (rkBlk p (.slice (some ⟨mb, off, none⟩) rms.length cap) nb S (c.said.length : Int) hv * (RnP nb (ntOut c.net i) * (EvSl hv c.hist * (PkO b6 (pa, (k : Int), (pw : Int)) * R)))))) by ac_rfl)) hx hy
  have hr0S : r0 ∈ S := by rw [HR0.out]; exact List.getElem_mem hpl
  rw [← hFR] at ht
  have htr : Own w0 (RcO rm.q rm.vv rm.rows m.me m.clk * FR) w3 := by
    have h1 : rm.m = m := by rw [HRM.out]; exact HMK.out
    rw [← h1]
    exact ht
  have h0I := hfs _ htr.drop r0 hr0S (by rw [hr2]; exact hr0I)
  rw [hr2] at h0I
  obtain ⟨rad, rcap, hrv, _, _⟩ := h0I.shape
  rw [hrv] at s2
  have hPP : ∀ x, (x ∈ rm.rows ∨ x = (.slice rad s.clk.length rcap, s)) → Reads w0 FR x.1 x.2.clk := fun x hx w' h' => by
    rcases hx with hx | rfl
    · obtain ⟨h1, h2⟩ := HROWS.out x hx
      exact hfs w' h' x h1 (HRI.out x h1 h2)
    · have h1 := hfs w' h' r0 hr0S (by rw [hr2]; exact hr0I)
      rw [hr2, hrv] at h1
      exact h1
  have HTK := Lib.hid (rcTake_any rm.q m s (.slice rad s.clk.length rcap) rm.vv rm.rows HMI.out HRW.out hPP htr.drew)
  have HHV := Lib.hid hrv
  have HR2 := Lib.hid hr2
  have HFR := Lib.hid hFR
  have HR0S := Lib.hid hr0S
  obtain ⟨O, hO⟩ : ∃ x, x = caOut m s := ⟨_, rfl⟩
  obtain ⟨m2, hm2⟩ : ∃ x, x = caTake m s := ⟨_, rfl⟩
  have k0 : (0 : Int) ≤ (k : Int) := by omega
  have kN : (k : Int) < (N : Int) := by omega
  have p0 : (0 : Int) ≤ (pw : Int) := by omega
  have p31 : (pw : Int) < 31 := by omega
  have hp1 : (1 : Int) ≤ (pw : Int) := by omega
  clear ho HB3 c0 c1 c2 c3 HO HGV ht htr hfs h0I hPP hrv hr2 hFR d5 d1 d2 d3 hr0S hr0I x0
  have HO_ := Lib.hid hO
  clear hO
  have HM2 := Lib.hid hm2
  clear hm2
  go_upto_region 2 with fail
  rw [← hb_b6, ← hw_w3]
  clear hb_b6 hw_w3
  go_upto_region 4 with fail
  refine wp_region_planH 20 [] [(true, 0), (true, 1), (true, 2), (true, 3), (true, 4), (true, 5), (true, 6), (true, 7), (true, 8), (true, 9), (true, 10), (true, 11), (true, 12), (true, 13), (true, 14), (false, 15), (true, 16), (true, 17), (true, 18), (false, 19)] [20] (fun wS => wS.cell? ⟨p, 0, none⟩ = some (.slice (some ⟨mb, off, none⟩) N cap) ∧ wS.cell? ⟨b6, 1, none⟩ = some (.int .i64 (k : Int)) ∧ wS.cell? ⟨b6, 2, none⟩ = some (.int .i64 (pw : Int)) ∧ wS.cell? ⟨mb, off + k, none⟩ = some (.pointer (some ⟨rm.q, 0, none⟩)) ∧ wS.cell? ⟨p, 2 + pw * 3, none⟩ = some (.int .i64 s.who) ∧ wS.cell? ⟨p, 2 + pw * 3 + 1, none⟩ = some (.int .i64 s.word) ∧ wS.cell? ⟨p, 2 + pw * 3 + 2, none⟩ = some (.slice rad s.clk.length rcap)) (by kernel_rfl) (by kernel_rfl) (⟨d0, x1, x2, e5, s0, s1, s2⟩) ?_
  simp only [pickH, pick, List.getElem?_cons_succ, List.getElem?_cons_zero, Option.toList, Option.map_some, List.cons_append, List.nil_append]
  repeat (refine wpPure_step ?_ rfl ?_ ?_; rotate_left; (focus (intro _; first | with_reducible rfl | (go_simp; done) | (go_simp; with_reducible rfl) | rfl)); go_simp)
  refine wpPure_nil ?_
  repeat (refine wpMix_read ?_ rfl ?_ ?_; rotate_left; (focus (intro _ hS; obtain ⟨q1, q2, q3, q4, q5, q6, q7⟩ := hS; first | with_reducible rfl | (go_simp; done) | (go_simp; with_reducible rfl) | rfl)); go_simp)
  refine wpMix_write (fun K hK => ?_)
  go_simp
  refine HTK.out.mono ?_
  rintro e w4 ⟨v4, vv4, rows4, rfl, hw4, hsub4, ho4⟩
  obtain ⟨rm2, hrm2⟩ : ∃ r : RmR, r = ⟨rm.q, vv4, rows4, m2⟩ := ⟨_, rfl⟩
  have HO4 : Hid (Own w0 (EvSl hv c.hist * (rkBlk p (.slice (some ⟨mb, off, none⟩) rms.length cap) nb S (c.said.length : Int) hv * (PkO b6 (pa, (k : Int), (pw : Int)) * (IntSl v4 O * (rmP rm2 * (RnP nb (ntOut c.net i) * (SlAt 64 1 mb off rms.length cap (rms.map rmV) * (starL rmP (rms.eraseIdx k) * (starL sdRow S * R))))))))) w4) := Lib.hid (by
    rw [← HO_.out, ← HM2.out, HFR.out] at ho4
    rw [hrm2]
    refine ho4.perm ?_
    show IntSl v4 O * (RcO rm.q vv4 rows4 m2.me m2.clk * _) = _ * (_ * (_ * (_ * (RcO rm.q vv4 rows4 m2.me m2.clk * _))))
    ac_rfl)
  obtain ⟨f0, _, _, _, _, fx⟩ := HO4.out.second.rkb_facts HE_.out.len
  rw [← HN'.out] at f0
  obtain ⟨u0, u1, u2⟩ := fx pw hpl
  rw [← HR0.out] at u0 u1 u2
  rw [HR2.out] at u0 u1
  rw [HHV.out] at u2
  obtain ⟨_, g1, g2⟩ := HO4.out.third.pk
  dsimp only at g1 g2
  have f5 : w4.cell? ⟨mb, off + k, none⟩ = some (.pointer (some ⟨rm.q, 0, none⟩)) := by
    have h1 : Own w0 (SlAt 64 1 mb off rms.length cap (rms.map rmV) * (EvSl hv c.hist * (rkBlk p (.slice (some ⟨mb, off, none⟩) rms.length cap) nb S (c.said.length : Int) hv * (PkO b6 (pa, (k : Int), (pw : Int)) * (IntSl v4 O * (rmP rm2 * (RnP nb (ntOut c.net i) * (starL rmP (rms.eraseIdx k) * (starL sdRow S * R))))))))) w4 := HO4.out.perm (by ac_rfl)
    obtain ⟨_, _, _, hc, _⟩ := h1.slAt_facts
    exact hc k (.pointer (some ⟨rm.q, 0, none⟩)) (by
      rw [List.getElem?_map, List.getElem?_eq_getElem hkr, ← HRM.out]; rfl)
  obtain ⟨ad4, cp4, hv4⟩ := Own.int_shape HO4.out.fourth
  subst hv4
  have HW4 : Hid (rows4.map (·.2) = m2.waits) := Lib.hid (by rw [HM2.out]; exact hw4)
  have HSUB : Hid (∀ x ∈ rows4, x ∈ S) := Lib.hid (fun x hx => by
    rcases hsub4 x hx with h | rfl
    · exact (HROWS.out x h).1
    · have : r0 = (.slice rad s.clk.length rcap, s) := Prod.ext HHV.out HR2.out
      rw [← this]; exact HR0S.out)
  have HGVN : Hid (csGiven c i = O ∧ m2 = caTake (csGm c i) (csGs c i) ∧ O = caOut (csGm c i) (csGs c i)) := Lib.hid (by
    refine ⟨?_, ?_, ?_⟩
    · unfold csGiven; rw [if_pos HE.out, HO_.out, HM.out, HS.out]
    · rw [HM2.out, HM.out, HS.out]
    · rw [HO_.out, HM.out, HS.out])
  have HRM2 := Lib.hid hrm2
  clear ho4 HTK d0 x1 x2 e5 s0 s1 s2 HO3 fx hw4 hsub4 hrm2 HFR
  refine hK _ _ ⟨⟨f0, g1, g2, f5, u0, u1, u2⟩, ?_⟩
  clear hK K
  go_simp
  repeat (refine wpMix_read ?_ rfl ?_ ?_; rotate_left; (focus (intro _ hS; obtain ⟨q1, q2, q3, q4, q5, q6, q7⟩ := hS; first | with_reducible rfl | (go_simp; done) | (go_simp; with_reducible rfl) | rfl)); go_simp)
  refine wpMix_write (fun K hK => ?_)
  go_simp
  refine hK _ _ ⟨⟨f0, g1, g2, f5, u0, u1, u2⟩, ?_⟩
  clear hK K
  go_simp
  refine wpMix_nil ?_
  go_wp2_with fail
  refine NoPanic.normal ?_
  clear f0 g1 g2 f5 u0 u1 u2
  go_wp2_with fail
  obtain ⟨Q, hQ⟩ : ∃ Q, Q = PkO b6 (pa, (k : Int), (pw : Int)) * (IntSl (.slice ad4 O.length cp4) O * (rmP rm2 * (RnP nb (ntOut c.net i) * (SlAt 64 1 mb off rms.length cap (rms.map rmV) * (starL rmP (rms.eraseIdx k) * (starL sdRow S * R)))))) := ⟨_, rfl⟩
  have HOI : Hid (∀ x ∈ O, I64 x) := Lib.hid (by rw [HO_.out]; exact caOut_I64 HMI.out)
  have hol : O.length ≤ 41 := by rw [HO_.out]; exact caOut_le HMI.out
  have HQ_ := Lib.hid hQ
  have HQF : Hid (∀ (w' : World) (T : HProp), Own w0 (T * Q) w' → w'.cell? ⟨b6, 1, none⟩ = some (.int .i64 (k : Int)) ∧ Ints w' (.slice ad4 O.length cp4) O) := Lib.hid (fun w' T h => by
    have h1 := h.drop
    rw [hQ] at h1
    exact ⟨(h1.pk).2.1, IntSl_reads HOI.out _ h1.second⟩)
  rw [← hQ] at HO4
  clear hQ
  obtain ⟨L, hL⟩ : ∃ L, L = O.length := ⟨_, rfl⟩
  rw [← hL] at hol
  rw [← hL]
  have HL := Lib.hid hL
  rw [← hL] at HQF
  clear hL
  have HSL := Lib.hid HE_.out.len
  go_loopw [10] (fun iv wr => ∃ (j : Nat) (hv : Value), j ≤ L ∧ iv = .int .i64 j ∧ Hid (Own w0 (EvSl hv (c.hist ++ hearEv (k : Int) (O.take j)) * (rkBlk p (.slice (some ⟨mb, off, none⟩) rms.length cap) nb S (c.said.length : Int) hv * Q)) wr)) (fun iv _ => L - (intOf iv).toNat)
  case atStart => exact ⟨0, hv, Nat.zero_le _, rfl, Lib.hid (by rw [List.take_zero]; show Own w0 (EvSl hv (c.hist ++ []) * _) _; rw [List.append_nil]; exact HO4.out)⟩
  case round =>
    clear HO4
    obtain ⟨j, hvj, hj, rfl, HP⟩ := hrel
    by_cases hlt : j < L
    rotate_left
    · have hjL : O.take j = O := List.take_of_length_le (by rw [← HL.out]; omega)
      rw [hjL, HQ_.out] at HP
      have HJL := Lib.hid hjL
      clear hjL
      go_wp2
      go_ret2
      refine ⟨_, rfl, ?_⟩
      rw [HGVN.out.1, HL.out]
      have h1 := HP.out
      have h2 : Own w0 (IntSl (.slice ad4 O.length cp4) O * (rmP rm2 * (RnP nb (ntOut c.net i) * (rkBlk p (.slice (some ⟨mb, off, none⟩) rms.length cap) nb S (c.said.length : Int) hvj * (SlAt 64 1 mb off rms.length cap (rms.map rmV) * (starL rmP (rms.eraseIdx k) * (starL sdRow S * (EvSl hvj (c.hist ++ hearEv (k : Int) O) * R)))))))) wr :=
        (h1.perm (show _ = PkO b6 (pa, (k : Int), (pw : Int)) * (IntSl (.slice ad4 O.length cp4) O * (rmP rm2 * (RnP nb (ntOut c.net i) * (rkBlk p (.slice (some ⟨mb, off, none⟩) rms.length cap) nb S (c.said.length : Int) hvj * (SlAt 64 1 mb off rms.length cap (rms.map rmV) * (starL rmP (rms.eraseIdx k) * (starL sdRow S * (EvSl hvj (c.hist ++ hearEv (k : Int) O) * R)))))))) by ac_rfl)).drop
      have h3 := h2.perm (show _ = rmP rm2 * (RnP nb (ntOut c.net i) * (rkBlk p (.slice (some ⟨mb, off, none⟩) rms.length cap) nb S (c.said.length : Int) hvj * (SlAt 64 1 mb off rms.length cap (rms.map rmV) * (starL rmP (rms.eraseIdx k) * (starL sdRow S * (EvSl hvj (c.hist ++ hearEv (k : Int) O) * (IntSl (.slice ad4 O.length cp4) O * R))))))) by ac_rfl)
      rw [HRM2.out, HRM.out] at h3
      exact (rk_give_close (mb := mb) (off := off) (cap := cap) (nb := nb) (hv := hvj) (m := m2) (hh := hearEv (k : Int) O) HE_.out hkr HE.out HTO.out HGVN.out.2.1 (by rw [← HGVN.out.2.2]) HW4.out HSUB.out h3).second
    obtain ⟨g1, hin⟩ := HQF.out _ _ (HP.out.perm (show _ = (EvSl hvj (c.hist ++ hearEv (k : Int) (O.take j)) * rkBlk p (.slice (some ⟨mb, off, none⟩) rms.length cap) nb S (c.said.length : Int) hvj) * Q by rw [star_assoc]))
    have hjO : j < O.length := by rw [← HL.out]; exact hlt
    obtain ⟨aa, rfl, hca⟩ := hin.at j hjO
    obtain ⟨x, hx⟩ : ∃ x, x = O[j] := ⟨_, rfl⟩
    rw [← hx] at hca
    have hsn := hearEv_snoc (a := (k : Int)) hjO
    rw [← hx] at hsn
    have g3 : wr.cell? ⟨p, 96, none⟩ = some hvj := (HP.out.second.rkb_facts HSL.out).2.2.2.1
    obtain ⟨had, hcp, hhv, _⟩ := Own.rd HP.out
    obtain ⟨LH, hLH⟩ : ∃ y, y = (c.hist ++ hearEv (k : Int) (O.take j)).length := ⟨_, rfl⟩
    have hLHb : LH ≤ 100041 := by
      rw [hLH, List.length_append]
      unfold hearEv
      rw [List.length_map, List.length_take]
      have := HBN.out
      omega
    have HT : Hid (Own w0 (Sl 112 3 (.slice had LH hcp) LH ((c.hist ++ hearEv (k : Int) (O.take j)).flatMap evCells) * (rkBlk p (.slice (some ⟨mb, off, none⟩) rms.length cap) nb S (c.said.length : Int) (.slice had LH hcp) * Q)) wr) := Lib.hid (by
      have h1 := HP.out
      unfold EvSl at h1
      rw [hhv, ← hLH] at h1
      exact h1)
    rw [hhv, ← hLH] at g3
    have j0 : (0 : Int) ≤ (j : Int) := by omega
    have jL : (j : Int) < (L : Int) := by omega
    clear hin hhv HP
    have HX := Lib.hid hx; have HSN := Lib.hid hsn; have HLH := Lib.hid hLH
    clear hx hsn hLH
    go_upto_region 8 with fail
    refine wp_region_planH 16 [] [(true, 0), (true, 1), (true, 2), (true, 3), (true, 4), (true, 5), (true, 6), (true, 7), (true, 8), (true, 9), (true, 10), (true, 11), (false, 12), (false, 13), (true, 14), (true, 15)] [16] (fun wS => wS.cell? ⟨p, 96, none⟩ = some (.slice had LH hcp) ∧ wS.cell? ⟨b6, 1, none⟩ = some (.int .i64 (k : Int)) ∧ wS.cell? (aa.add j) = some (.int .i64 x)) (by kernel_rfl) (by kernel_rfl) (⟨g3, g1, hca⟩) ?_
    simp only [pickH, pick, List.getElem?_cons_succ, List.getElem?_cons_zero, Option.toList, Option.map_some, List.cons_append, List.nil_append]
    repeat (refine wpPure_step ?_ rfl ?_ ?_; rotate_left; (focus (intro _; first | with_reducible rfl | (go_simp; done) | (go_simp; with_reducible rfl) | rfl)); go_simp)
    refine wpPure_nil ?_
    repeat (refine wpMix_read ?_ rfl ?_ ?_; rotate_left; (focus (intro _ hS; obtain ⟨q1, q2, q3⟩ := hS; first | with_reducible rfl | (go_simp; done) | (go_simp; with_reducible rfl) | rfl)); go_simp)
    refine wpMix_write (fun K hK => ?_)
    go_simp
    obtain ⟨b3, hb_b3⟩ : ∃ zz_, zz_ = (wr).heap.size := ⟨_, rfl⟩
    obtain ⟨w8, hw_w8⟩ : ∃ zz_, zz_ = (wr).alloc (.cells #[.int .i64 (k : Int), .int .i64 3, .int .i64 x] 112 (0, 0)) := ⟨_, rfl⟩
    have h_HB3 := (HT.out).alloc (.cells #[.int .i64 (k : Int), .int .i64 3, .int .i64 x] 112 (0, 0))
    rw [← hb_b3, ← hw_w8] at h_HB3
    have HB3 := Lib.hid h_HB3
    clear h_HB3
    rw [← hb_b3, ← hw_w8]
    clear hb_b3 hw_w8
    have HB5 : Hid (Own w0 (Sl 112 3 (.slice had LH hcp) LH ((c.hist ++ hearEv (k : Int) (O.take j)).flatMap evCells) * (rkBlk p (.slice (some ⟨mb, off, none⟩) rms.length cap) nb S (c.said.length : Int) (.slice had LH hcp) * (EvO b3 ((k : Int), 3, x) * Q))) w8.drew) := Lib.hid (HB3.out.drew.perm (by unfold EvO rkBlk; ac_rfl))
    clear HB3 HT g1 g3 hca
    have g3 : w8.drew.cell? ⟨p, 96, none⟩ = some (.slice had LH hcp) := (HB5.out.second.rkb_facts HSL.out).2.2.2.1
    obtain ⟨g1, hin⟩ := HQF.out _ _ HB5.out.drop.drop
    have hca : w8.drew.cell? (aa.add j) = some (.int .i64 x) := by
      obtain ⟨a', e', hc'⟩ := hin.at j hjO
      injection e' with e'
      rw [e', HX.out]; exact hc'
    refine hK _ _ ⟨⟨g3, g1, hca⟩, ?_⟩
    clear hK K
    go_simp
    refine wpMix_write (fun K hK => ?_)
    have hsrc : Rd w8.drew (.slice (some ⟨b3, 0, none⟩) 1 1) 1 [.int .i64 (k : Int), .int .i64 3, .int .i64 x] := Rd_one (fun i u hi => by
      rw [Own.cell (HB5.out.third.perm (by unfold EvO; rfl))]
      match i, hi with
      | 0, hi => exact hi
      | 1, hi => exact hi
      | 2, hi => exact hi) (Nat.le_refl _) (by unfold maxLen; omega)
    refine step_app rfl _ _ 61 rfl 112 3 24 _ info_ev Tryz.underlying61 rfl (by decide) (by rfl) HB5.out (by rfl) (by rfl) hsrc (by intro u hu; simp at hu; rcases hu with rfl | rfl | rfl <;> rfl) (by unfold maxLen; omega) (by omega) ?_
    intro v9 w9 ho9
    obtain ⟨_, _, _, e3, ef0, _⟩ := ho9.second.rkb_facts HSL.out
    have ef := ef0 96 none
    obtain ⟨e1, hin2⟩ := HQF.out _ _ ho9.drop.drop
    have hca2 : w9.cell? (aa.add j) = some (.int .i64 x) := by
      obtain ⟨a', e', hc'⟩ := hin2.at j hjO
      injection e' with e'
      rw [e', HX.out]; exact hc'
    have hset := ho9.second.rkb_hist HSL.out v9
    have hfin : Own w0 (EvSl v9 (c.hist ++ hearEv (k : Int) (O.take (j + 1))) * (rkBlk p (.slice (some ⟨mb, off, none⟩) rms.length cap) nb S (c.said.length : Int) v9 * Q)) (w9.setCell ⟨p, 96, none⟩ v9) := by
      have e1 : Sl 112 3 v9 (LH + 1) ((c.hist ++ hearEv (k : Int) (O.take j)).flatMap evCells ++ [.int .i64 (k : Int), .int .i64 3, .int .i64 x]) = EvSl v9 (c.hist ++ hearEv (k : Int) (O.take (j + 1))) := by
        rw [HSN.out, ← List.append_assoc]
        unfold EvSl
        rw [List.length_append (bs := [_]), List.flatMap_append (ys := [_]), ← HLH.out]
        rfl
      rw [← e1]
      refine (hset.perm (show _ = EvO b3 ((k : Int), 3, x) * (Sl 112 3 v9 (LH + 1) ((c.hist ++ hearEv (k : Int) (O.take j)).flatMap evCells ++ [.int .i64 (k : Int), .int .i64 3, .int .i64 x]) * (rkBlk p (.slice (some ⟨mb, off, none⟩) rms.length cap) nb S (c.said.length : Int) v9 * Q)) from ?_)).drop
      ac_rfl
    have HFIN := Lib.hid hfin
    obtain ⟨ad9, n9, cp9, hv9⟩ := sl_shape ho9
    subst hv9
    clear hsrc ho9 hset hfin HB5 g1 g3 hca hin hin2 ef0
    refine hK _ _ ⟨⟨e3, e1, hca2⟩, ?_⟩
    clear hK K
    go_simp
    repeat (refine wpMix_read ?_ rfl ?_ ?_; rotate_left; (focus (intro _ hS; obtain ⟨q1, q2, q3⟩ := hS; first | with_reducible rfl | (go_simp; done) | (go_simp; with_reducible rfl) | rfl)); go_simp)
    refine wpMix_nil ?_
    go_wp2_with fail
    refine NoPanic.normal ?_
    go_wp2_with fail
    go_roundw
    case rel => exact ⟨j + 1, _, by omega, by go_num, HFIN⟩
    case measure => simp [intOf]; omega
set_option maxRecDepth 100000 in
set_option maxHeartbeats 4000000 in
theorem rkGive_any {w0 w : World} {R : HProp} (p : Nat) (c : Cs) (i : Int) (hI : CsI c) (hb : c.hist.length ≤ 100000) (h : Own w0 (RkP p c * R) w) :
    Calls Tryz.prog 21 #[.pointer (some ⟨p, 0, none⟩), .int .i64 i] w fun e w' => ∃ v', e = .returned (.tuple #[v', .int .i64 (csGiveErr c i : Nat)]) ∧ Own w0 (IntSl v' (csGiven c i) * (RkP p (csGive c i) * R)) w' := by
  by_cases hE : csGiveErr c i = 0
  · rw [hE]
    exact rkGive_yes p c i hI hb hE h
  · refine (rkGive_no p c i hI hE h).mono ?_
    rintro e w' ⟨rfl, ho⟩
    refine ⟨_, rfl, ?_⟩
    rw [show csGiven c i = [] by unfold csGiven; rw [if_neg hE], show csGive c i = c by unfold csGive; rw [if_neg hE]]
    exact ho.sl_nil 3 1
end Go.Proofs.YtdfjbnfdknpahaaGreatDoor
