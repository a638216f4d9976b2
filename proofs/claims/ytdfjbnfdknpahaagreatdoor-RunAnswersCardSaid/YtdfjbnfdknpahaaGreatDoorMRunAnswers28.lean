/- The reference's net: Send, Out, Give. -/
import Derived.Test.YtdfjbnfdknpahaaGreatDoorMRunAnswers27
import Derived.Test.YtdfjbnfdknpahaaGreatDoorMRunAnswers19
namespace Go.Proofs.YtdfjbnfdknpahaaGreatDoor
set_option linter.unusedVariables false
set_option linter.unusedSimpArgs false
open Go.RowKit Go.Maps
/-- The reference's table of ways that are cut. -/
def RnIs (s : Nt) (B : List Bool) : Prop := B.length = 25 ∧ ∀ a b : Nat, a < 5 → b < 5 → a ≠ b → B[5 * a + b]? = some (decide (wayOf a b ∈ s.cut))
abbrev rnBlk (p : Nat) (v : Value) (B : List Bool) : HProp := blk p (.cells (v :: B.map Value.bool).toArray 55 (0, 0))
def RnO (p : Nat) (v : Value) (B : List Bool) (s : Nt) : HProp := rnBlk p v B * PkSl v s.all
def RnP (p : Nat) (s : Nt) : HProp := hex fun x : Value × List Bool => pur (RnIs s x.2) * RnO p x.1 x.2 s
theorem Own.rn_open {w0 w : World} {p : Nat} {s : Nt} {R : HProp} (h : Own w0 (RnP p s * R) w) : ∃ ad cap B, RnIs s B ∧ s.all.length ≤ cap ∧ cap ≤ 9223372036854775807 ∧ Own w0 (RnO p (.slice ad s.all.length cap) B s * R) w := by
  obtain ⟨⟨v, B⟩, h⟩ := Own.ex h
  rw [star_assoc] at h
  obtain ⟨hB, h⟩ := Own.pur_out h
  have h2 : Own w0 (PkSl v s.all * (rnBlk p v B * R)) w := h.perm (by unfold RnO; ac_rfl)
  obtain ⟨ad, cap, rfl, h3, h4, _⟩ := Own.rd h2
  exact ⟨ad, cap, B, hB, h3, by unfold maxLen at h4; omega, h⟩
theorem Own.rn_close {w0 w : World} {p : Nat} {v : Value} {B : List Bool} {s : Nt} {R : HProp} (hB : RnIs s B) (h : Own w0 (RnO p v B s * R) w) : Own w0 (RnP p s * R) w := by
  refine Own.ex_mk (v, B) ?_
  rw [star_assoc]
  exact Own.pur_mk hB h
section
variable {w0 w : World} {p : Nat} {v : Value} {B : List Bool} {s : Nt} {R : HProp}
theorem Own.rn_blk (h : Own w0 (RnO p v B s * R) w) : Own w0 (rnBlk p v B * (PkSl v s.all * R)) w := h.perm (by unfold RnO; ac_rfl)
theorem Own.rn_all (h : Own w0 (RnO p v B s * R) w) : Own w0 (PkSl v s.all * (rnBlk p v B * R)) w := h.perm (by unfold RnO; ac_rfl)
theorem Own.rn_facts (h : Own w0 (RnO p v B s * R) w) : w.cell? ⟨p, 0, none⟩ = some v ∧ (∀ i t, w.frozen? ⟨p, i, t⟩ = false) ∧ ∀ (i : Nat) x, B[i]? = some x → w.cell? ⟨p, 1 + i, none⟩ = some (.bool x) := by
  refine ⟨(h.rn_blk.cell 0).trans rfl, fun i t => h.rn_blk.free i t, fun i x hx => ?_⟩
  rw [h.rn_blk.cell]
  simp [Nat.add_comm 1 i, hx]
end
theorem rn_app {w0 w : World} {p : Nat} {v v' : Value} {B : List Bool} {s : Nt} {q : Ev} {L : Nat} {R : HProp} (hB : RnIs s B) (hL : L = s.all.length)
    (h : Own w0 (Sl 79 3 v' (L + 1) (s.all.flatMap evCells ++ evCells q) * (rnBlk p v B * R)) w) : Own w0 (RnP p { s with all := s.all ++ [q] } * R) (w.setCell ⟨p, 0, none⟩ v') := by
  subst hL
  have h1 := h.second.setCell (i := 0) (v := v')
  refine Own.rn_close (v := v') (B := B) hB (h1.perm ?_)
  unfold RnO PkSl rnBlk
  rw [List.length_append, List.flatMap_append]
  simp only [List.length_singleton, List.flatMap_cons, List.flatMap_nil, List.append_nil]
  show (blk p (.cells (v' :: B.map Value.bool).toArray 55 (0, 0)) * _ : HProp) = _
  ac_rfl
/-- What the reference asks of a packet. -/
def pkT (a b d : Int) : Bool := decide (a < 0) || (decide (4 < a) || (decide (b < 0) || (decide (4 < b) || (decide (d < 1) || decide (30 < d)))))
theorem pkErr_is (a b d : Int) : pkErr (a, b, d) = if pkT a b d = true then 1 else if a = b then 3 else 0 := by
  unfold pkErr
  simp only
  by_cases h : pkT a b d = true
  · rw [if_pos h]
    unfold pkT at h
    simp only [Bool.or_eq_true, decide_eq_true_eq] at h
    cases h1 : isMember a
    · rw [if_pos rfl]
    rw [if_neg (by simp)]
    cases h2 : isMember b
    · rw [if_pos rfl]
    rw [if_neg (by simp)]
    cases h3 : isWord d
    · rw [if_pos rfl]
    simp [isMember, isWord] at h1 h2 h3
    omega
  · rw [if_neg h]
    unfold pkT at h
    simp only [Bool.or_eq_true, decide_eq_true_eq] at h
    have h1 : isMember a = true := by simp [isMember]; omega
    have h2 : isMember b = true := by simp [isMember]; omega
    have h3 : isWord d = true := by simp [isWord]; omega
    rw [h1, h2, h3, if_neg (by simp), if_neg (by simp), if_neg (by simp)]
set_option maxRecDepth 100000 in
set_option maxHeartbeats 4000000 in
theorem rnSend_any {w0 w : World} {R : HProp} (p : Nat) (s : Nt) (q : Ev) (hI : NtI s) (h : Own w0 (RnP p s * R) w) :
    Calls Tryz.prog 24 #[.pointer (some ⟨p, 0, none⟩), evV q] w fun e w' => e = .returned (.int .i64 (ntErr s q)) ∧ Own w0 (RnP p (ntSend s q) * R) w' := by
  obtain ⟨a, b, d⟩ := q
  obtain ⟨E, hE⟩ : ∃ E, E = ntErr s (a, b, d) := ⟨_, rfl⟩
  obtain ⟨S, hS⟩ : ∃ S, S = ntSend s (a, b, d) := ⟨_, rfl⟩
  rw [← hE, ← hS]
  unfold ntSend at hS
  rw [← hE] at hS
  unfold ntErr at hE
  rw [pkErr_is] at hE
  unfold evV
  dsimp only
  obtain ⟨ad, cap, B, hB, h3, h4, ho0⟩ := h.rn_open
  obtain ⟨b1, hb_b1⟩ : ∃ zz_, zz_ = (w).heap.size := ⟨_, rfl⟩
  obtain ⟨w1, hw_w1⟩ : ∃ zz_, zz_ = (w).alloc (.cells #[.int .i64 a, .int .i64 b, .int .i64 d] 79 (0, 0)) := ⟨_, rfl⟩
  have h_HO := (ho0).alloc (.cells #[.int .i64 a, .int .i64 b, .int .i64 d] 79 (0, 0))
  rw [← hb_b1, ← hw_w1] at h_HO
  have HO := Lib.hid h_HO
  clear h_HO
  have HO1 : Hid (Own w0 (RnO p (.slice ad s.all.length cap) B s * (PkO b1 (a, b, d) * R)) w1) := Lib.hid HO.out.second
  obtain ⟨x0, x1, x2⟩ := HO1.out.second.pk
  obtain ⟨c0, cf, _⟩ := HO1.out.rn_facts
  simp only at x0 x1 x2
  have fin : ∀ w', Own w0 (RnO p (.slice ad s.all.length cap) B s * (PkO b1 (a, b, d) * R)) w' → Own w0 (RnP p s * R) w' := fun w' ho => ho.second.drop.rn_close hB
  have hlen := hI.len
  obtain ⟨L, hL⟩ : ∃ L, L = s.all.length := ⟨_, rfl⟩
  rw [← hL] at hlen h3 c0 HO1 fin hE
  clear h ho0 HO
  have HL := Lib.hid hL; have FIN := Lib.hid fin; have CF := Lib.hid cf; have HI := Lib.hid hI; have HB := Lib.hid hB
  clear hL fin cf hI hB
  obtain ⟨T, hT⟩ : ∃ T, T = pkT a b d := ⟨_, rfl⟩
  rw [← hT] at hE
  go_enter Tryz.func24, Tryz.ntmps24
  go_upto_region 1 with fail
  rw [← hb_b1, ← hw_w1]
  clear hb_b1 hw_w1
  go_cut [32] (fun v wx => v = .bool T ∧ wx = w1)
  case first =>
    go_wp2_with fail
    all_goals
      go_meet
      refine ⟨?_, rfl⟩
      rw [hT]
      unfold pkT
      try simp only [*, decide_true, Bool.true_or, Bool.false_or, Bool.or_false, Bool.or_true]
      try (rw [decide_eq_false (show ¬ a < 0 by omega), decide_eq_false (show ¬ 4 < a by omega), decide_eq_false (show ¬ b < 0 by omega), decide_eq_false (show ¬ 4 < b by omega), decide_eq_false (show ¬ d < 1 by omega)]; rfl)
  case rest =>
  obtain ⟨rfl, rfl⟩ := hcut
  clear hT
  cases T
  rotate_left
  · rw [if_pos rfl, if_pos (by decide)] at hE
    subst hE
    rw [if_neg (by decide)] at hS
    subst hS
    go_wp2
    go_ret
    exact ⟨rfl, FIN.out _ HO1.out⟩
  rw [if_neg (show ¬ false = true by simp)] at hE
  by_cases hab : a = b
  · rw [if_pos hab, if_pos (by decide)] at hE
    subst hE
    rw [if_neg (by decide)] at hS
    subst hS
    have t1 : (a == b) = true := by simpa using hab
    have HAB := Lib.hid hab
    clear hab
    go_wp2
    go_ret
    exact ⟨rfl, FIN.out _ HO1.out⟩
  rw [if_neg hab, if_neg (by simp)] at hE
  have t1 : (a == b) = false := by simpa using hab
  by_cases h40 : 40 ≤ L
  · rw [if_pos h40] at hE
    subst hE
    rw [if_neg (by decide)] at hS
    subst hS
    have t2 : decide ((40 : Int) ≤ (L : Int)) = true := decide_eq_true (by omega)
    have HAB := Lib.hid hab
    clear hab
    go_wp2
    go_ret
    exact ⟨rfl, FIN.out _ HO1.out⟩
  rw [if_neg h40] at hE
  subst hE
  rw [if_pos rfl] at hS
  have t2 : decide ((40 : Int) ≤ (L : Int)) = false := decide_eq_false (by omega)
  have HOA : Hid (Own w0 (Sl 79 3 (.slice ad L cap) L (s.all.flatMap evCells) * (rnBlk p (.slice ad L cap) B * (PkO b1 (a, b, d) * R))) wc) := Lib.hid (HO1.out.rn_all.perm (by unfold PkSl; rw [← HL.out]))
  have HAB := Lib.hid hab; have HS := Lib.hid hS
  clear hab hS
  go_upto_region 7 with fail
  refine wp_region_planH 10 [] [(true, 0), (true, 1), (true, 2), (true, 3), (true, 4), (true, 5), (false, 6), (false, 7), (true, 8), (true, 9)] [10] (fun wS => wS.cell? ⟨p, 0, none⟩ = some (.slice ad L cap) ∧ wS.cell? ⟨b1, 0, none⟩ = some (.int .i64 a) ∧ wS.cell? ⟨b1, 1, none⟩ = some (.int .i64 b) ∧ wS.cell? ⟨b1, 2, none⟩ = some (.int .i64 d)) (by kernel_rfl) (by kernel_rfl) (⟨c0, x0, x1, x2⟩) ?_
  simp only [pickH, pick, List.getElem?_cons_succ, List.getElem?_cons_zero, Option.toList, Option.map_some, List.cons_append, List.nil_append]
  repeat (refine wpPure_step ?_ rfl ?_ ?_; rotate_left; (focus (intro _; first | with_reducible rfl | (go_simp; done) | (go_simp; with_reducible rfl) | rfl)); go_simp)
  refine wpPure_nil ?_
  repeat (refine wpMix_read ?_ rfl ?_ ?_; rotate_left; (focus (intro _ hS; obtain ⟨s1, s2, s3, s4⟩ := hS; first | with_reducible rfl | (go_simp; done) | (go_simp; with_reducible rfl) | rfl)); go_simp)
  refine wpMix_write (fun K hK => ?_)
  go_simp
  obtain ⟨b2, hb_b2⟩ : ∃ zz_, zz_ = (wc).heap.size := ⟨_, rfl⟩
  obtain ⟨w2, hw_w2⟩ : ∃ zz_, zz_ = (wc).alloc (.cells #[.int .i64 a, .int .i64 b, .int .i64 d] 79 (0, 0)) := ⟨_, rfl⟩
  have h_HB2 := (HOA.out).alloc (.cells #[.int .i64 a, .int .i64 b, .int .i64 d] 79 (0, 0))
  rw [← hb_b2, ← hw_w2] at h_HB2
  have HB2 := Lib.hid h_HB2
  clear h_HB2
  rw [← hb_b2, ← hw_w2]
  clear hb_b2 hw_w2
  have HB3 : Hid (Own w0 (Sl 79 3 (.slice ad L cap) L (s.all.flatMap evCells) * (rnBlk p (.slice ad L cap) B * (PkO b1 (a, b, d) * (PkO b2 (a, b, d) * R)))) w2.drew) := Lib.hid (HB2.out.drew.perm (by unfold PkO; ac_rfl))
  clear HB2 HOA c0 x0 x1 x2
  have c0 : w2.drew.cell? ⟨p, 0, none⟩ = some (.slice ad L cap) := (HB3.out.second.cell 0).trans rfl
  obtain ⟨x0, x1, x2⟩ := HB3.out.third.pk
  simp only at x0 x1 x2
  refine hK _ _ ⟨⟨c0, x0, x1, x2⟩, ?_⟩
  clear hK K
  go_simp
  refine wpMix_write (fun K hK => ?_)
  have hsrc : Rd w2.drew (.slice (some ⟨b2, 0, none⟩) 1 1) 1 [.int .i64 a, .int .i64 b, .int .i64 d] := Rd_one (fun i u hi => by
    rw [HB3.out.fourth.cell]
    match i, hi with
    | 0, hi => exact hi
    | 1, hi => exact hi
    | 2, hi => exact hi) (Nat.le_refl _) (by unfold maxLen; omega)
  refine step_app rfl _ _ 51 rfl 79 3 24 _ info_pk Tryz.underlying51 rfl (by decide) (by rfl) HB3.out (by rfl) (by rfl) hsrc (by intro u hu; simp at hu; rcases hu with rfl | rfl | rfl <;> rfl) (by unfold maxLen; omega) (by omega) ?_
  intro v5 w5 ho5
  obtain ⟨ad5, cp5, hv5, _⟩ := Own.rd ho5
  subst hv5
  clear c0 x0 x1 x2 hsrc
  have c0 : w5.cell? ⟨p, 0, none⟩ = some (.slice ad L cap) := (ho5.second.cell 0).trans rfl
  have f0 := ho5.second.free 0 none
  obtain ⟨x0, x1, x2⟩ := ho5.third.pk
  simp only at x0 x1 x2
  have HF := Lib.hid (rn_app (q := (a, b, d)) HB.out HL.out ho5)
  rw [← HS.out] at HF
  clear ho5
  refine hK _ _ ⟨⟨c0, x0, x1, x2⟩, ?_⟩
  clear hK K
  go_simp
  repeat (refine wpMix_read ?_ rfl ?_ ?_; rotate_left; (focus (intro _ hS; obtain ⟨s1, s2, s3, s4⟩ := hS; first | with_reducible rfl | (go_simp; done) | (go_simp; with_reducible rfl) | rfl)); go_simp)
  refine wpMix_nil ?_
  go_wp2_with fail
  refine NoPanic.normal ?_
  go_wp2
  go_ret
  exact ⟨rfl, HF.out.second.drop.second.drop⟩
end Go.Proofs.YtdfjbnfdknpahaaGreatDoor
/- The reference's net, continued: Out, Give. -/
namespace Go.Proofs.YtdfjbnfdknpahaaGreatDoor
set_option linter.unusedVariables false
set_option linter.unusedSimpArgs false
open Go.RowKit Go.Maps
theorem Rd.front_of {w : World} {ad : Option Addr} {len cp n sz : Nat} {xs : List Value} (h : Rd w (.slice ad len cp) len xs) (hn : n ≤ len) : Rd w (.slice ad n cp) n (xs.take (n * sz)) := by
  obtain ⟨ad', cp', e, h1, h2, h3, h4⟩ := h
  injection e with e1 e2 e3
  subst e1; subst e3
  refine ⟨ad, cp, rfl, by omega, h2, h3, fun i u hi => h4 i u ?_⟩
  rw [List.getElem?_take] at hi
  split at hi
  · exact hi
  · cases hi
theorem Rd.back_of {w : World} {b off len cp n sz : Nat} {xs : List Value} {A : Addr} (hA : (if cp = n then (⟨b, off, none⟩ : Addr) else ⟨b, off + n * sz, none⟩) = A) (hx : xs.length = len * sz) (h : Rd w (.slice (some ⟨b, off, none⟩) len cp) len xs) (hn : n ≤ len) :
    Rd w (.slice (some A) (len - n) (cp - n)) (len - n) (xs.drop (n * sz)) := by
  obtain ⟨ad', cp', e, h1, h2, h3, h4⟩ := h
  injection e with e1 e2 e3
  subst e1; subst e3
  refine ⟨some A, _, rfl, by omega, by omega, (fun hc => by cases hc), fun i u hi => ?_⟩
  rw [List.getElem?_drop] at hi
  have hlt : n * sz + i < xs.length := (List.getElem?_eq_some_iff.1 hi).1
  obtain ⟨a, ha, hc⟩ := h4 _ _ hi
  cases ha
  by_cases hcn : cp = n
  · have : len = n := by omega
    subst this
    omega
  · rw [if_neg hcn] at hA
    subst hA
    refine ⟨_, rfl, ?_⟩
    rw [Addr.add_lit] at hc ⊢
    rw [Nat.add_assoc]; exact hc
theorem Own.rn_at {w0 w : World} {p i : Nat} {v : Value} {B : List Bool} {s : Nt} {R : HProp} (hi : i < s.all.length) (h : Own w0 (RnO p v B s * R) w) :
    ∃ b off cap, v = .slice (some ⟨b, off, none⟩) s.all.length cap ∧ s.all.length ≤ cap ∧ cap ≤ 9223372036854775807 ∧ w.cell? ⟨b, off + i * 3, none⟩ = some (.int .i64 (ntAt s i).1) ∧ w.cell? ⟨b, off + i * 3 + 1, none⟩ = some (.int .i64 (ntAt s i).2.1) ∧ w.cell? ⟨b, off + i * 3 + 2, none⟩ = some (.int .i64 (ntAt s i).2.2) := by
  have hl : (s.all.flatMap evCells).length = s.all.length * 3 := cells_len evCells 3 (fun _ => rfl) _
  obtain ⟨b, off, cap, hv, h2⟩ := h.rn_all.slAt (by omega)
  obtain ⟨h3, h4, _, hc, _⟩ := h2.slAt_facts
  have hx : ntAt s i = s.all[i] := by
    unfold ntAt
    rw [List.getD_eq_getElem?_getD, Int.toNat_natCast, List.getElem?_eq_getElem hi]; rfl
  rw [hx]
  refine ⟨b, off, cap, hv, h3, by unfold maxLen at h4; omega, ?_, ?_, ?_⟩
  · exact hc (i * 3) _ (ev_get s.all i 0 hi (by omega))
  · rw [Nat.add_assoc]; exact hc (i * 3 + 1) _ (ev_get s.all i 1 hi (by omega))
  · rw [Nat.add_assoc]; exact hc (i * 3 + 2) _ (ev_get s.all i 2 hi (by omega))
theorem rn_out_end {w0 w : World} {p i L n : Nat} {v v' : Value} {B : List Bool} {s : Nt} {R Q : HProp} (hB : RnIs s B) (hi : i < s.all.length) (hL : L = s.all.length) (hn : n + 1 = L)
    (h : Own w0 (Sl 79 3 v' n ((s.all.flatMap evCells).take (i * 3) ++ (s.all.flatMap evCells).drop ((i + 1) * 3)) * (Q * (rnBlk p v B * R))) w) : Own w0 (RnP p (ntOut s i) * R) (w.setCell ⟨p, 0, none⟩ v') := by
  rw [← cells_erase evCells 3 (fun _ => rfl) s.all i hi] at h
  have h1 := (h.third.setCell (i := 0) (v := v'))
  have h2 := h1.third.drop
  refine Own.rn_close (s := ntOut s i) (v := v') (B := B) hB (h2.perm ?_)
  unfold RnO PkSl rnBlk ntOut
  simp only
  rw [Int.toNat_natCast, List.length_eraseIdx_of_lt hi, show n = s.all.length - 1 by omega]
  show (blk p (.cells (v' :: B.map Value.bool).toArray 55 (0, 0)) * _ : HProp) = _
  ac_rfl
set_option maxRecDepth 100000 in
set_option maxHeartbeats 4000000 in
theorem rnOut_any {w0 w : World} {R : HProp} (p : Nat) (s : Nt) (k : Nat) (hk : k < s.all.length) (hI : NtI s) (h : Own w0 (RnP p s * R) w) :
    Calls Tryz.prog 23 #[.pointer (some ⟨p, 0, none⟩), .int .i64 (k : Int)] w fun e w' => e = .returned (.tuple #[]) ∧ Own w0 (RnP p (ntOut s k) * R) w' := by
  obtain ⟨ad, cap0, B, hB, h3, h4, ho⟩ := h.rn_open
  obtain ⟨c0, cf, _⟩ := ho.rn_facts
  obtain ⟨b, off, cap, hv, h5, h6, _⟩ := ho.rn_at hk
  injection hv with ev1 _ ev3
  subst ev1; subst ev3
  have hlen := hI.len
  have hxl : (s.all.flatMap evCells).length = s.all.length * 3 := cells_len evCells 3 (fun _ => rfl) _
  have hho : Own w0 (Sl 79 3 (.slice none 0 0) 0 [] * (PkSl (.slice (some ⟨b, off, none⟩) s.all.length cap0) s.all * (rnBlk p (.slice (some ⟨b, off, none⟩) s.all.length cap0) B * R))) w := ho.rn_all.sl_nil _ _
  have hrd : Rd w (.slice (some ⟨b, off, none⟩) s.all.length cap0) s.all.length (s.all.flatMap evCells) := Own.rd ho.rn_all
  obtain ⟨L, hL⟩ : ∃ L, L = s.all.length := ⟨_, rfl⟩
  rw [← hL] at hk hlen h3 h5 c0 hxl
  have hhc : Own w0 (Sl 79 3 (.slice none 0 0) 0 [] * (Sl 79 3 (.slice (some ⟨b, off, none⟩) L cap0) L (s.all.flatMap evCells) * (rnBlk p (.slice (some ⟨b, off, none⟩) L cap0) B * R))) w := by rw [hL]; exact hho
  rw [← hL] at hrd
  obtain ⟨X, hX⟩ : ∃ X, X = s.all.flatMap evCells := ⟨_, rfl⟩
  have hone : ∀ u ∈ X, u.oneCell' = true := by rw [hX]; exact ev_one _
  have hfin : ∀ w' v' n, n + 1 = L → Own w0 (Sl 79 3 v' n (X.take (k * 3) ++ X.drop ((k + 1) * 3)) * (Sl 79 3 (.slice (some ⟨b, off, none⟩) L cap0) L X * (rnBlk p (.slice (some ⟨b, off, none⟩) L cap0) B * R))) w' → Own w0 (RnP p (ntOut s k) * R) (w'.setCell ⟨p, 0, none⟩ v') := fun w' v' n hn h' => by
    rw [hX] at h'
    exact rn_out_end hB (by omega) hL hn h'
  rw [← hX] at hhc hrd hxl
  have hr1 := hrd.front_of (sz := 3) (n := k) (by omega)
  obtain ⟨A, hA⟩ : ∃ A, (if cap0 = k + 1 then (⟨b, off, none⟩ : Addr) else ⟨b, off + (k + 1) * 3, none⟩) = A := ⟨_, rfl⟩
  have hk' : k + 1 ≤ L := by omega
  have hc1 := fun w => cut3_back (P := Tryz.prog) Tryz.underlying51 packet_size (b := b) (off := off) (show k ≤ L by omega) h3 w
  have hc2 := fun w => cut3_front (P := Tryz.prog) Tryz.underlying51 packet_size (b := b) (off := off) (cp := cap0) (n := k) hk' w
  rw [hA] at hc2
  have ht : (X.take (k * 3)).length = k * 3 := by rw [List.length_take]; omega
  have hd : (X.drop ((k + 1) * 3)).length = (L - (k + 1)) * 3 := by rw [List.length_drop]; omega
  have ho1 : ∀ u ∈ X.take (k * 3), u.oneCell' = true := fun u hu => hone u (List.mem_of_mem_take hu)
  have ho2 : ∀ u ∈ X.drop ((k + 1) * 3), u.oneCell' = true := fun u hu => hone u (List.mem_of_mem_drop hu)
  clear h ho hho hrd
  have HAA := Lib.hid hA
  clear hA
  have HI := Lib.hid hI; have HL := Lib.hid hL; have HX := Lib.hid hX; have HFIN := Lib.hid hfin; have HHC := Lib.hid hhc; have HR1 := Lib.hid hr1; have HXL := Lib.hid hxl; have HT := Lib.hid ht; have HD := Lib.hid hd; have HO1 := Lib.hid ho1; have HO2 := Lib.hid ho2; have HONE := Lib.hid hone; have HB := Lib.hid hB; have CF := Lib.hid cf
  clear hI hL hX hfin hhc hr1 hxl ht hd ho1 ho2 hone hB cf
  go_enter Tryz.func23, Tryz.ntmps23
  go_upto_region 2 with (at_builtin; refine wpList_app rfl _ _ 51 rfl 79 3 24 _ info_pk Tryz.underlying51 rfl (by decide) rfl HHC.out rfl HT.out HR1.out HO1.out (by unfold maxLen; omega) (by omega) ?_; intro v1 w1 ho1; rw [Nat.zero_add, List.nil_append] at ho1; obtain ⟨ad1, cp1, hv1, _⟩ := Own.rd ho1; subst hv1; clear c0; have c0 : w1.cell? ⟨p, 0, none⟩ = some (.slice (some ⟨b, off, none⟩) L cap0) := (ho1.third.cell 0).trans rfl; have HW1 := Lib.hid ho1; have HR2 := Lib.hid (Rd.back_of HAA.out HXL.out (Own.rd ho1.second) hk'); clear ho1)
  go_wp2_with (at_builtin; refine wpList_app rfl _ _ 51 rfl 79 3 24 _ info_pk Tryz.underlying51 rfl (by decide) rfl HW1.out rfl HD.out HR2.out HO2.out (by unfold maxLen; omega) (by omega) ?_; intro v2 w2 ho2; obtain ⟨ad2, cp2, hv2, _⟩ := Own.rd ho2; subst hv2; clear c0; have c0 : w2.cell? ⟨p, 0, none⟩ = some (.slice (some ⟨b, off, none⟩) L cap0) := (ho2.third.cell 0).trans rfl; have f0 := ho2.third.free 0 none; have HW2 := Lib.hid (HFIN.out _ _ _ (by omega) ho2); clear ho2)
  refine bodyPost_end (results_none rfl _ _ _) rfl ⟨rfl, HW2.out⟩
end Go.Proofs.YtdfjbnfdknpahaaGreatDoor
/- The reference's net, continued: Give. -/
namespace Go.Proofs.YtdfjbnfdknpahaaGreatDoor
set_option linter.unusedVariables false
set_option linter.unusedSimpArgs false
open Go.RowKit Go.Maps
set_option maxRecDepth 100000 in
set_option maxHeartbeats 4000000 in
theorem rnGive_any {w0 w : World} {R : HProp} (p : Nat) (s : Nt) (i : Int) (hI : NtI s) (h : Own w0 (RnP p s * R) w) :
    Calls Tryz.prog 42 #[.pointer (some ⟨p, 0, none⟩), .int .i64 i] w fun e w' => e = .returned (.tuple #[evV (ntGiven s i), .int .i64 (ntGiveErr s i)]) ∧ Own w0 (RnP p (ntGive s i) * R) w' := by
  obtain ⟨b1, hb_b1⟩ : ∃ zz_, zz_ = (w).heap.size := ⟨_, rfl⟩
  obtain ⟨w1, hw_w1⟩ : ∃ zz_, zz_ = (w).alloc (.cells #[.int .i64 0, .int .i64 0, .int .i64 0] 79 (0, 0)) := ⟨_, rfl⟩
  have h_HO := (h).alloc (.cells #[.int .i64 0, .int .i64 0, .int .i64 0] 79 (0, 0))
  rw [← hb_b1, ← hw_w1] at h_HO
  have HO := Lib.hid h_HO
  clear h_HO
  have HO1 : Hid (Own w0 (RnP p s * (PkO b1 (0, 0, 0) * R)) w1) := Lib.hid HO.out.second
  obtain ⟨x0, x1, x2⟩ := HO1.out.second.pk
  have xf0 := HO1.out.second.pk_free 0 none
  have xf1 := HO1.out.second.pk_free 1 none
  have xf2 := HO1.out.second.pk_free 2 none
  simp only at x0 x1 x2
  clear HO h
  obtain ⟨ad, cap0, B, hB, h3, h4, ho⟩ := HO1.out.rn_open
  obtain ⟨c0, cf, cb⟩ := ho.rn_facts
  cases hh : ntHas s i
  · have hE : ntGiveErr s i = 1 := by unfold ntGiveErr; rw [hh]; rfl
    have hS : ntGive s i = s := by unfold ntGive; rw [hE]; rfl
    have hG : ntGiven s i = (0, 0, 0) := by unfold ntGiven; rw [hE]; rfl
    rw [hE, hS, hG]
    have HPUT := Lib.hid (HO1.out.second.pk_put (0, 0, 0))
    obtain ⟨q0, q1, q2⟩ := HPUT.out.pk
    simp only at q0 q1 q2
    obtain ⟨L, hL⟩ : ∃ L, L = s.all.length := ⟨_, rfl⟩
    have hno : i < 0 ∨ (L : Int) ≤ i := by
      have := mt (ntHas_iff (s := s) (i := i)).2 (by rw [hh]; simp)
      omega
    rw [← hL] at c0 h3
    by_cases hi0 : i < 0
    · have t1 : decide (i < 0) = true := by simpa using hi0
      have HE := Lib.hid hE; have HS := Lib.hid hS; have HG := Lib.hid hG; have HI := Lib.hid hI; have HB := Lib.hid hB; have CF := Lib.hid cf; have CB := Lib.hid cb; have HO := Lib.hid ho; have HH := Lib.hid hh; have HL := Lib.hid hL; have HNO := Lib.hid hno; have HI0 := Lib.hid hi0
      clear hE hS hG hI hB cf cb ho hh hL hno hi0
      go_enter Tryz.func42, Tryz.ntmps42
      go_upto_region 1 with fail
      rw [← hb_b1, ← hw_w1]
      clear hb_b1 hw_w1
      go_wp2_with fail
      exact bodyPost_ret (v := .tuple #[evV (0, 0, 0), .int .i64 1]) (by simp [results, Tryz.results42, go_sem, q0, q1, q2, evV]) rfl ⟨rfl, HPUT.out.drop⟩
    · have t1 : decide (i < 0) = false := by simpa using hi0
      have t2 : decide ((L : Int) ≤ i) = true := decide_eq_true (by omega)
      have HE := Lib.hid hE; have HS := Lib.hid hS; have HG := Lib.hid hG; have HI := Lib.hid hI; have HB := Lib.hid hB; have CF := Lib.hid cf; have CB := Lib.hid cb; have HO := Lib.hid ho; have HH := Lib.hid hh; have HL := Lib.hid hL; have HNO := Lib.hid hno; have HI0 := Lib.hid hi0
      clear hE hS hG hI hB cf cb ho hh hL hno hi0
      go_enter Tryz.func42, Tryz.ntmps42
      go_upto_region 1 with fail
      rw [← hb_b1, ← hw_w1]
      clear hb_b1 hw_w1
      go_wp2_with fail
      exact bodyPost_ret (v := .tuple #[evV (0, 0, 0), .int .i64 1]) (by simp [results, Tryz.results42, go_sem, q0, q1, q2, evV]) rfl ⟨rfl, HPUT.out.drop⟩
  obtain ⟨hi0, hi1⟩ := ntHas_iff.1 hh
  obtain ⟨k, rfl⟩ : ∃ k : Nat, i = (k : Int) := ⟨i.toNat, by omega⟩
  have hk : k < s.all.length := by omega
  have hlen := hI.len
  obtain ⟨pe1, pe2, _, pe3⟩ := pkErr0 (hI.ok _ (ntAt_mem hh))
  obtain ⟨D, hD⟩ : ∃ D, D = ntCutAt s k := ⟨_, rfl⟩
  have hE : ntGiveErr s k = if D = true then 6 else 0 := by unfold ntGiveErr; rw [hh, ← hD]; rfl
  obtain ⟨b, off, cap0', hv, h5, h6, d0, d1, d2⟩ := ho.rn_at hk
  unfold ntCutAt at hD
  have hG0 : ntGiven s k = if D = true then (0, 0, 0) else ntAt s k := by unfold ntGiven; rw [hE]; cases D <;> rfl
  have hS0 : ntGive s k = if D = true then s else ntOut s k := by unfold ntGive; rw [hE]; cases D <;> rfl
  injection hv with ev1 _ ev3
  subst ev1; subst ev3
  have HOut := fun w' (h' : Own w0 (RnP p s * (PkO b1 (0, 0, 0) * R)) w') => True
  obtain ⟨L, hL⟩ : ∃ L, L = s.all.length := ⟨_, rfl⟩
  have hkl := hk
  rw [← hL] at hk hlen h3 h5 c0 ho
  rw [hE, hG0, hS0]
  obtain ⟨X, hX⟩ : ∃ x, x = ntAt s k := ⟨_, rfl⟩
  rw [← hX] at d0 d1 d2 hD pe1 pe2 pe3 ⊢
  clear hE hG0 hS0 HOut
  obtain ⟨xa, xb, xd⟩ := X
  simp only at d0 d1 d2 hD pe1 pe2 pe3
  simp only [isMember, Bool.and_eq_true, decide_eq_true_eq] at pe1 pe2
  obtain ⟨A1, rfl⟩ : ∃ a : Nat, xa = (a : Int) := ⟨xa.toNat, by omega⟩
  obtain ⟨B1, rfl⟩ : ∃ a : Nat, xb = (a : Int) := ⟨xb.toNat, by omega⟩
  have hA5 : A1 < 5 := by omega
  have hB5 : B1 < 5 := by omega
  have iA0 : (0 : Int) ≤ (A1 : Int) := by omega
  have iB0 : (0 : Int) ≤ (B1 : Int) := by omega
  have iA5 : (A1 : Int) < 5 := by omega
  have iB5 : (B1 : Int) < 5 := by omega
  have hbc := hB.2 A1 B1 hA5 hB5 (by omega)
  rw [← hD] at hbc
  obtain ⟨b2, hb_b2⟩ : ∃ zz_, zz_ = (w1).heap.size := ⟨_, rfl⟩
  obtain ⟨w2, hw_w2⟩ : ∃ zz_, zz_ = (w1).alloc (.cells #[.int .i64 A1, .int .i64 B1, .int .i64 xd] 79 (0, 0)) := ⟨_, rfl⟩
  have h_HB2 := (ho).alloc (.cells #[.int .i64 A1, .int .i64 B1, .int .i64 xd] 79 (0, 0))
  rw [← hb_b2, ← hw_w2] at h_HB2
  have HB2 := Lib.hid h_HB2
  clear h_HB2
  have HO2 : Hid (Own w0 (RnO p (.slice (some ⟨b, off, none⟩) L cap0) B s * (PkO b2 ((A1 : Int), (B1 : Int), xd) * (PkO b1 (0, 0, 0) * R))) w2) := Lib.hid HB2.out.second
  clear HB2
  obtain ⟨e0, _, eb⟩ := HO2.out.rn_facts
  have eb1 := eb _ _ hbc
  obtain ⟨y0, y1, y2⟩ := HO2.out.second.pk
  obtain ⟨z0, z1, z2⟩ := HO2.out.third.pk
  have zf0 := HO2.out.third.pk_free 0 none
  have zf1 := HO2.out.third.pk_free 1 none
  have zf2 := HO2.out.third.pk_free 2 none
  simp only at y0 y1 y2 z0 z1 z2
  rw [show 1 + (5 * A1 + B1) = 1 + A1 * 5 + B1 by omega] at eb1
  clear eb
  have HI := Lib.hid hI; have HO := Lib.hid ho; have CF := Lib.hid cf; have CB := Lib.hid cb; have HL := Lib.hid hL; have HX := Lib.hid hX; have HD := Lib.hid hD; have HB := Lib.hid hB; have HBC := Lib.hid hbc; have PE3 := Lib.hid pe3; have HKL := Lib.hid hkl
  clear hI ho cf cb hL hX hD hB hbc pe3 hkl
  go_enter Tryz.func42, Tryz.ntmps42
  go_upto_region 1 with fail
  rw [← hb_b1, ← hw_w1]
  clear hb_b1 hw_w1
  go_upto_region 4 with fail
  rw [← hb_b2, ← hw_w2]
  clear hb_b2 hw_w2
  clear c0 d0 d1 d2 x0 x1 x2 xf0 xf1 xf2
  go_wp2_with fail
  go_quiet (fail)
  have HO3 := Lib.hid (HO2.out.drewN nq)
  cases D
  · have hout := rnOut_any p s k HKL.out HI.out ((HO2.out.drewN nq).rn_close HB.out)
    clear e0 eb1 y0 y1 y2 z0 z1 z2 zf0 zf1 zf2
    go_wp2_with fail
    refine hout.mono ?_
    rintro e w4 ⟨rfl, ho4⟩
    obtain ⟨y0, y1, y2⟩ := ho4.second.pk
    obtain ⟨z0, z1, z2⟩ := ho4.third.pk
    have zf0 := ho4.third.pk_free 0 none
    have zf1 := ho4.third.pk_free 1 none
    have zf2 := ho4.third.pk_free 2 none
    have HPUT := Lib.hid (ho4.third.pk_put ((A1 : Int), (B1 : Int), xd))
    obtain ⟨q0, q1, q2⟩ := HPUT.out.pk
    simp only at y0 y1 y2 z0 z1 z2 q0 q1 q2
    clear ho4 hout
    go_wp2_with fail
    exact bodyPost_ret (v := .tuple #[evV ((A1 : Int), (B1 : Int), xd), .int .i64 0]) (by simp [results, Tryz.results42, go_sem, q0, q1, q2, evV]) rfl ⟨rfl, HPUT.out.drop.second.drop⟩
  · have HPUT := Lib.hid (HO3.out.third.pk_put (0, 0, 0))
    obtain ⟨q0, q1, q2⟩ := HPUT.out.pk
    simp only at q0 q1 q2
    go_wp2_with fail
    exact bodyPost_ret (v := .tuple #[evV (0, 0, 0), .int .i64 6]) (by simp [results, Tryz.results42, go_sem, q0, q1, q2, evV]) rfl ⟨rfl, (HPUT.out.drop.rn_close HB.out).second.drop⟩
end Go.Proofs.YtdfjbnfdknpahaaGreatDoor
/- The reference's Cast as it lies in memory. -/
namespace Go.Proofs.YtdfjbnfdknpahaaGreatDoor
set_option linter.unusedVariables false
set_option linter.unusedSimpArgs false
open Go.RowKit Go.Maps
/-- A member of the reference: where it lies, and its rows. -/
structure RmR where
  q : Nat
  vv : Value
  rows : List SdR
  m : Ca
def rmV (r : RmR) : Value := .pointer (some ⟨r.q, 0, none⟩)
def rmP (r : RmR) : HProp := RcO r.q r.vv r.rows r.m.me r.m.clk
def rkCells (mv : Value) (nb : Nat) (S : List SdR) (many : Int) (hv : Value) : List Value := mv :: .pointer (some ⟨nb, 0, none⟩) :: (S.flatMap sdCells ++ [.int .i64 many, hv])
abbrev rkBlk (p : Nat) (mv : Value) (nb : Nat) (S : List SdR) (many : Int) (hv : Value) : HProp := blk p (.cells (rkCells mv nb S many hv).toArray 63 (0, 0))
theorem rkc_said {mv : Value} {nb : Nat} {S : List SdR} {many : Int} {hv : Value} {w j : Nat} (hw : w < S.length) (hj : j < 3) : (rkCells mv nb S many hv)[2 + w * 3 + j]? = (sdCells S[w])[j]? := by
  unfold rkCells
  rw [show 2 + w * 3 + j = (w * 3 + j) + 1 + 1 by omega, List.getElem?_cons_succ, List.getElem?_cons_succ, List.getElem?_append_left (by rw [sd_len]; omega), cells_get sdCells 3 (fun _ => rfl) S w j hw hj]
theorem rkc_many {mv : Value} {nb : Nat} {S : List SdR} {many : Int} {hv : Value} (h : S.length = 31) : (rkCells mv nb S many hv)[95]? = some (.int .i64 many) := by
  unfold rkCells
  rw [List.getElem?_cons_succ, List.getElem?_cons_succ, List.getElem?_append_right (by rw [sd_len]; omega), sd_len, h]; rfl
theorem rkc_hist {mv : Value} {nb : Nat} {S : List SdR} {many : Int} {hv : Value} (h : S.length = 31) : (rkCells mv nb S many hv)[96]? = some hv := by
  unfold rkCells
  rw [List.getElem?_cons_succ, List.getElem?_cons_succ, List.getElem?_append_right (by rw [sd_len]; omega), sd_len, h]; rfl
theorem rkc_mset {mv v' : Value} {nb : Nat} {S : List SdR} {many : Int} {hv : Value} : (rkCells mv nb S many hv).set 0 v' = rkCells v' nb S many hv := rfl
theorem rkc_manyset {mv : Value} {nb : Nat} {S : List SdR} {many x : Int} {hv : Value} (h : S.length = 31) : (rkCells mv nb S many hv).set 95 (.int .i64 x) = rkCells mv nb S x hv := by
  unfold rkCells
  rw [List.set_cons_succ, List.set_cons_succ, List.set_append_right _ _ (by rw [sd_len]; omega), sd_len, h]; rfl
theorem rkc_histset {mv : Value} {nb : Nat} {S : List SdR} {many : Int} {hv v' : Value} (h : S.length = 31) : (rkCells mv nb S many hv).set 96 v' = rkCells mv nb S many v' := by
  unfold rkCells
  rw [List.set_cons_succ, List.set_cons_succ, List.set_append_right _ _ (by rw [sd_len]; omega), sd_len, h]; rfl
theorem flat_set : ∀ (S : List SdR) (w : Nat), w < S.length → ∀ r : SdR, (((S.flatMap sdCells).set (w * 3) (.int .i64 r.2.who)).set (w * 3 + 1) (.int .i64 r.2.word)).set (w * 3 + 2) r.1 = (S.set w r).flatMap sdCells
  | [], w, h, r => by simp at h
  | x :: S, 0, _, r => rfl
  | x :: S, w + 1, h, r => by
    have ih := flat_set S w (by simpa using h) r
    rw [List.set_cons_succ, List.flatMap_cons, List.flatMap_cons, ← ih]
    rw [show (w + 1) * 3 = w * 3 + 1 + 1 + 1 by omega]
    rfl
theorem set_two (a b : Value) (X : List Value) (i : Nat) (v : Value) : (a :: b :: X).set (2 + i) v = a :: b :: X.set i v := by
  rw [Nat.add_comm]; rfl
theorem rkc_sdset {mv : Value} {nb : Nat} {S : List SdR} {many : Int} {hv : Value} {w : Nat} (hw : w < S.length) (r : SdR) :
    (((rkCells mv nb S many hv).set (2 + w * 3) (.int .i64 r.2.who)).set (2 + w * 3 + 1) (.int .i64 r.2.word)).set (2 + w * 3 + 2) r.1 = rkCells mv nb (S.set w r) many hv := by
  have l : (S.flatMap sdCells).length = S.length * 3 := sd_len S
  unfold rkCells
  rw [← flat_set S w hw r, Nat.add_assoc 2 (w * 3) 1, Nat.add_assoc 2 (w * 3) 2, set_two, set_two, set_two]
  rw [List.set_append_left (w * 3) _ (by omega), List.set_append_left (w * 3 + 1) _ (by rw [List.length_set]; omega), List.set_append_left (w * 3 + 2) _ (by rw [List.length_set, List.length_set]; omega)]
def RkO (p mb off cap nb : Nat) (hv : Value) (S : List SdR) (rms : List RmR) (c : Cs) : HProp :=
  rkBlk p (.slice (some ⟨mb, off, none⟩) rms.length cap) nb S (c.said.length : Int) hv * (TabO rmP rmV 64 mb off cap rms * (RnP nb c.net * (starL sdRow S * EvSl hv c.hist)))
/-- What the reference's group has to do with the plain one. -/
structure RkIs (S : List SdR) (rms : List RmR) (c : Cs) : Prop where
  mem : rms.map (·.m) = c.mem
  rows : ∀ r ∈ rms, r.rows.map (·.2) = r.m.waits ∧ ∀ x ∈ r.rows, x ∈ S
  len : S.length = 31
  said : ∀ (w : Nat) (h : w < S.length), S[w].2 = csSd c (w : Int)
def RkP (p : Nat) (c : Cs) : HProp := hex fun (x : (Nat × Nat × Nat × Nat) × Value × List SdR × List RmR) => pur (RkIs x.2.2.1 x.2.2.2 c) * RkO p x.1.1 x.1.2.1 x.1.2.2.1 x.1.2.2.2 x.2.1 x.2.2.1 x.2.2.2 c
theorem Own.rk_open {w0 w : World} {p : Nat} {c : Cs} {R : HProp} (h : Own w0 (RkP p c * R) w) : ∃ mb off cap nb hv S rms, RkIs S rms c ∧ Own w0 (RkO p mb off cap nb hv S rms c * R) w := by
  obtain ⟨⟨⟨mb, off, cap, nb⟩, hv, S, rms⟩, h⟩ := Own.ex h
  rw [star_assoc] at h
  obtain ⟨he, h⟩ := Own.pur_out h
  exact ⟨mb, off, cap, nb, hv, S, rms, he, h⟩
theorem Own.rk_close {w0 w : World} {p mb off cap nb : Nat} {hv : Value} {S : List SdR} {rms : List RmR} {c : Cs} {R : HProp} (he : RkIs S rms c) (h : Own w0 (RkO p mb off cap nb hv S rms c * R) w) : Own w0 (RkP p c * R) w := by
  refine Own.ex_mk ((mb, off, cap, nb), hv, S, rms) ?_
  rw [star_assoc]
  exact Own.pur_mk he h
section
variable {w0 w : World} {p mb off cap nb : Nat} {hv mv : Value} {S : List SdR} {many : Int} {rms : List RmR} {c : Cs} {R : HProp}
theorem Own.rkb_facts (h31 : S.length = 31) (h : Own w0 (rkBlk p mv nb S many hv * R) w) :
    w.cell? ⟨p, 0, none⟩ = some mv ∧ w.cell? ⟨p, 1, none⟩ = some (.pointer (some ⟨nb, 0, none⟩)) ∧ w.cell? ⟨p, 95, none⟩ = some (.int .i64 many) ∧ w.cell? ⟨p, 96, none⟩ = some hv ∧ (∀ i s, w.frozen? ⟨p, i, s⟩ = false) ∧
    ∀ (k : Nat) (hk : k < S.length), w.cell? ⟨p, 2 + k * 3, none⟩ = some (.int .i64 S[k].2.who) ∧ w.cell? ⟨p, 2 + k * 3 + 1, none⟩ = some (.int .i64 S[k].2.word) ∧ w.cell? ⟨p, 2 + k * 3 + 2, none⟩ = some S[k].1 := by
  refine ⟨by rw [Own.cell h]; rfl, by rw [Own.cell h]; rfl, ?_, ?_, fun i s => Own.free h i s, fun k hk => ⟨?_, ?_, ?_⟩⟩
  · rw [Own.cell h, List.getElem?_toArray]; exact rkc_many h31
  · rw [Own.cell h, List.getElem?_toArray]; exact rkc_hist h31
  · rw [Own.cell h, List.getElem?_toArray]; exact rkc_said (j := 0) hk (by omega)
  · rw [Own.cell h, List.getElem?_toArray]; exact rkc_said (j := 1) hk (by omega)
  · rw [Own.cell h, List.getElem?_toArray]; exact rkc_said (j := 2) hk (by omega)
theorem Own.rkb_many (h31 : S.length = 31) (x : Int) (h : Own w0 (rkBlk p mv nb S many hv * R) w) : Own w0 (rkBlk p mv nb S x hv * R) (w.setCell ⟨p, 95, none⟩ (.int .i64 x)) := by
  have h1 := Own.setCell (i := 95) (v := .int .i64 x) h
  rw [List.setIfInBounds_toArray, rkc_manyset h31] at h1
  exact h1
theorem Own.rkb_hist (h31 : S.length = 31) (v' : Value) (h : Own w0 (rkBlk p mv nb S many hv * R) w) : Own w0 (rkBlk p mv nb S many v' * R) (w.setCell ⟨p, 96, none⟩ v') := by
  have h1 := Own.setCell (i := 96) (v := v') h
  rw [List.setIfInBounds_toArray, rkc_histset h31] at h1
  exact h1
theorem Own.rkb_mem (v' : Value) (h : Own w0 (rkBlk p mv nb S many hv * R) w) : Own w0 (rkBlk p v' nb S many hv * R) (w.setCell ⟨p, 0, none⟩ v') := by
  have h1 := Own.setCell (i := 0) (v := v') h
  rw [List.setIfInBounds_toArray, rkc_mset] at h1
  exact h1
theorem Own.rkb_sd {k : Nat} (hk : k < S.length) (r : SdR) (h : Own w0 (rkBlk p mv nb S many hv * R) w) :
    Own w0 (rkBlk p mv nb (S.set k r) many hv * R) (((w.setCell ⟨p, 2 + k * 3, none⟩ (.int .i64 r.2.who)).setCell ⟨p, 2 + k * 3 + 1, none⟩ (.int .i64 r.2.word)).setCell ⟨p, 2 + k * 3 + 2, none⟩ r.1) := by
  have h1 := Own.setCell (i := 2 + k * 3 + 2) (v := r.1) (Own.setCell (i := 2 + k * 3 + 1) (v := .int .i64 r.2.word) (Own.setCell (i := 2 + k * 3) (v := .int .i64 r.2.who) h))
  rw [List.setIfInBounds_toArray, List.setIfInBounds_toArray, List.setIfInBounds_toArray, rkc_sdset hk r] at h1
  exact h1
theorem Own.rk_blk (h : Own w0 (RkO p mb off cap nb hv S rms c * R) w) : Own w0 (rkBlk p (.slice (some ⟨mb, off, none⟩) rms.length cap) nb S (c.said.length : Int) hv * (TabO rmP rmV 64 mb off cap rms * (RnP nb c.net * (starL sdRow S * (EvSl hv c.hist * R))))) w := h.perm (by unfold RkO; ac_rfl)
theorem Own.rk_tab (h : Own w0 (RkO p mb off cap nb hv S rms c * R) w) : Own w0 (TabO rmP rmV 64 mb off cap rms * (rkBlk p (.slice (some ⟨mb, off, none⟩) rms.length cap) nb S (c.said.length : Int) hv * (RnP nb c.net * (starL sdRow S * (EvSl hv c.hist * R))))) w := h.perm (by unfold RkO; ac_rfl)
theorem Own.rk_net (h : Own w0 (RkO p mb off cap nb hv S rms c * R) w) : Own w0 (RnP nb c.net * (rkBlk p (.slice (some ⟨mb, off, none⟩) rms.length cap) nb S (c.said.length : Int) hv * (TabO rmP rmV 64 mb off cap rms * (starL sdRow S * (EvSl hv c.hist * R))))) w := h.perm (by unfold RkO; ac_rfl)
theorem Own.rk_net_put {nt : Nt} (h : Own w0 (RnP nb nt * (rkBlk p (.slice (some ⟨mb, off, none⟩) rms.length cap) nb S (c.said.length : Int) hv * (TabO rmP rmV 64 mb off cap rms * (starL sdRow S * (EvSl hv c.hist * R))))) w) : Own w0 (RkO p mb off cap nb hv S rms { c with net := nt } * R) w := h.perm (by unfold RkO; ac_rfl)
theorem Own.rk_facts (he : RkIs S rms c) (h : Own w0 (RkO p mb off cap nb hv S rms c * R) w) :
    w.cell? ⟨p, 0, none⟩ = some (.slice (some ⟨mb, off, none⟩) rms.length cap) ∧ w.cell? ⟨p, 1, none⟩ = some (.pointer (some ⟨nb, 0, none⟩)) ∧ w.cell? ⟨p, 95, none⟩ = some (.int .i64 (c.said.length : Int)) ∧ w.cell? ⟨p, 96, none⟩ = some hv ∧ (∀ i s, w.frozen? ⟨p, i, s⟩ = false) ∧
    (∀ (i : Nat) r, rms[i]? = some r → w.cell? ⟨mb, off + i, none⟩ = some (rmV r)) ∧ rms.length ≤ cap ∧ cap ≤ maxLen := by
  obtain ⟨a0, a1, a2, a3, a4, _⟩ := h.rk_blk.rkb_facts he.len
  have h2 := h.rk_tab.tab_facts
  exact ⟨a0, a1, a2, a3, a4, h2.1, h2.2.2.1, h2.2.2.2⟩
end
theorem RkIs.memLen {S : List SdR} {rms : List RmR} {c : Cs} (he : RkIs S rms c) : rms.length = c.mem.length := by rw [← he.mem, List.length_map]
end Go.Proofs.YtdfjbnfdknpahaaGreatDoor
