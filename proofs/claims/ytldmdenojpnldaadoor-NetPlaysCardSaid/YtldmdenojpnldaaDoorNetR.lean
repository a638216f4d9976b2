/- The reference's net: Send, Out, Give. -/
import Derived.Test.YtldmdenojpnldaaDoorNet3
namespace Go.Proofs.YtldmdenojpnldaaDoor
set_option linter.unusedVariables false
set_option linter.unusedSimpArgs false
open Go.RowKit Go.Maps
/-- The reference's table of ways that are cut. -/
def RnIs (s : Nt) (B : List Bool) : Prop := B.length = 25 ∧ ∀ a b : Nat, a < 5 → b < 5 → a ≠ b → B[5 * a + b]? = some (decide (wayOf a b ∈ s.cut))
abbrev rnBlk (p : Nat) (v : Value) (B : List Bool) : HProp := blk p (.cells (v :: B.map Value.bool).toArray 44 (0, 0))
def RnO (p : Nat) (v : Value) (B : List Bool) (s : Nt) : HProp := rnBlk p v B * PkSl v s.all
def RnP (p : Nat) (s : Nt) : HProp := hex fun x : Value × List Bool => pur (RnIs s x.2) * RnO p x.1 x.2 s
theorem Own.rn_open {w0 w : World} {p : Nat} {s : Nt} {R : HProp} (h : Own w0 (RnP p s * R) w) : ∃ ad cap B, RnIs s B ∧ s.all.length ≤ cap ∧ cap ≤ 9223372036854775807 ∧ Own w0 (RnO p (.slice ad s.all.length cap) B s * R) w := by
  obtain ⟨⟨v, B⟩, h⟩ := Own.ex h
  rw [star_assoc] at h
  obtain ⟨hB, h⟩ := Own.pur_out h
  have h2 : Own w0 (PkSl v s.all * (rnBlk p v B * R)) w := h.perm (by unfold RnO; ac_rfl)
  obtain ⟨ad, cap, rfl, h3, h4, _⟩ := Own.rd h2
  exact ⟨ad, cap, B, hB, h3, by unfold maxLen at h4; omega, h⟩
theorem Own.rn_close {w0 w : World} {p : Nat} {v : Value} {B : List Bool} {s : Nt} {R : HProp} (hB : RnIs s B) (h : Own w0 (RnO p v B s * R) w) : Own w0 (RnP p s * R) w := by
  refine Own.ex_mk (v, B) ?_
  rw [star_assoc]
  exact Own.pur_mk hB h
section
variable {w0 w : World} {p : Nat} {v : Value} {B : List Bool} {s : Nt} {R : HProp}
theorem Own.rn_blk (h : Own w0 (RnO p v B s * R) w) : Own w0 (rnBlk p v B * (PkSl v s.all * R)) w := h.perm (by unfold RnO; ac_rfl)
theorem Own.rn_all (h : Own w0 (RnO p v B s * R) w) : Own w0 (PkSl v s.all * (rnBlk p v B * R)) w := h.perm (by unfold RnO; ac_rfl)
theorem Own.rn_facts (h : Own w0 (RnO p v B s * R) w) : w.cell? ⟨p, 0, none⟩ = some v ∧ (∀ i t, w.frozen? ⟨p, i, t⟩ = false) ∧ ∀ (i : Nat) x, B[i]? = some x → w.cell? ⟨p, 1 + i, none⟩ = some (.bool x) := by
  refine ⟨(h.rn_blk.cell 0).trans rfl, fun i t => h.rn_blk.free i t, fun i x hx => ?_⟩
  rw [h.rn_blk.cell]
  simp [Nat.add_comm 1 i, hx]
end
theorem rn_app {w0 w : World} {p : Nat} {v v' : Value} {B : List Bool} {s : Nt} {q : Ev} {L : Nat} {R : HProp} (hB : RnIs s B) (hL : L = s.all.length)
    (h : Own w0 (Sl 23 3 v' (L + 1) (s.all.flatMap evCells ++ evCells q) * (rnBlk p v B * R)) w) : Own w0 (RnP p { s with all := s.all ++ [q] } * R) (w.setCell ⟨p, 0, none⟩ v') := by
  subst hL
  have h1 := h.second.setCell (i := 0) (v := v')
  refine Own.rn_close (v := v') (B := B) hB (h1.perm ?_)
  unfold RnO PkSl rnBlk
  rw [List.length_append, List.flatMap_append]
  simp only [List.length_singleton, List.flatMap_cons, List.flatMap_nil, List.append_nil]
  show (blk p (.cells (v' :: B.map Value.bool).toArray 44 (0, 0)) * _ : HProp) = _
  ac_rfl
/-- What the reference asks of a packet. -/
def pkT (a b d : Int) : Bool := decide (a < 0) || (decide (4 < a) || (decide (b < 0) || (decide (4 < b) || (decide (d < 1) || decide (30 < d)))))
theorem pkErr_is (a b d : Int) : pkErr (a, b, d) = if pkT a b d = true then 1 else if a = b then 3 else 0 := by
  unfold pkErr
  simp only
  by_cases h : pkT a b d = true
  · rw [if_pos h]
    unfold pkT at h
    simp only [Bool.or_eq_true, decide_eq_true_eq] at h
    cases h1 : isMember a
    · rw [if_pos rfl]
    rw [if_neg (by simp)]
    cases h2 : isMember b
    · rw [if_pos rfl]
    rw [if_neg (by simp)]
    cases h3 : isWord d
    · rw [if_pos rfl]
    simp [isMember, isWord] at h1 h2 h3
    omega
  · rw [if_neg h]
    unfold pkT at h
    simp only [Bool.or_eq_true, decide_eq_true_eq] at h
    have h1 : isMember a = true := by simp [isMember]; omega
    have h2 : isMember b = true := by simp [isMember]; omega
    have h3 : isWord d = true := by simp [isWord]; omega
    rw [h1, h2, h3, if_neg (by simp), if_neg (by simp), if_neg (by simp)]
set_option maxRecDepth 100000 in
set_option maxHeartbeats 4000000 in
theorem rnSend_any {w0 w : World} {R : HProp} (p : Nat) (s : Nt) (q : Ev) (hI : NtI s) (h : Own w0 (RnP p s * R) w) :
    Calls Tryd.prog 21 #[.pointer (some ⟨p, 0, none⟩), evV q] w fun e w' => e = .returned (.int .i64 (ntErr s q)) ∧ Own w0 (RnP p (ntSend s q) * R) w' := by
  obtain ⟨a, b, d⟩ := q
  obtain ⟨E, hE⟩ : ∃ E, E = ntErr s (a, b, d) := ⟨_, rfl⟩
  obtain ⟨S, hS⟩ : ∃ S, S = ntSend s (a, b, d) := ⟨_, rfl⟩
  rw [← hE, ← hS]
  unfold ntSend at hS
  rw [← hE] at hS
  unfold ntErr at hE
  rw [pkErr_is] at hE
  unfold evV
  dsimp only
  obtain ⟨ad, cap, B, hB, h3, h4, ho0⟩ := h.rn_open
  obtain ⟨b1, hb_b1⟩ : ∃ zz_, zz_ = (w).heap.size := ⟨_, rfl⟩
  obtain ⟨w1, hw_w1⟩ : ∃ zz_, zz_ = (w).alloc (.cells #[.int .i64 a, .int .i64 b, .int .i64 d] 23 (0, 0)) := ⟨_, rfl⟩
  have h_HO := (ho0).alloc (.cells #[.int .i64 a, .int .i64 b, .int .i64 d] 23 (0, 0))
  rw [← hb_b1, ← hw_w1] at h_HO
  have HO := Lib.hid h_HO
  clear h_HO
  have HO1 : Hid (Own w0 (RnO p (.slice ad s.all.length cap) B s * (PkO b1 (a, b, d) * R)) w1) := Lib.hid HO.out.second
  obtain ⟨x0, x1, x2⟩ := HO1.out.second.pk
  obtain ⟨c0, cf, _⟩ := HO1.out.rn_facts
  simp only at x0 x1 x2
  have fin : ∀ w', Own w0 (RnO p (.slice ad s.all.length cap) B s * (PkO b1 (a, b, d) * R)) w' → Own w0 (RnP p s * R) w' := fun w' ho => ho.second.drop.rn_close hB
  have hlen := hI.len
  obtain ⟨L, hL⟩ : ∃ L, L = s.all.length := ⟨_, rfl⟩
  rw [← hL] at hlen h3 c0 HO1 fin hE
  clear h ho0 HO
  have HL := Lib.hid hL; have FIN := Lib.hid fin; have CF := Lib.hid cf; have HI := Lib.hid hI; have HB := Lib.hid hB
  clear hL fin cf hI hB
  obtain ⟨T, hT⟩ : ∃ T, T = pkT a b d := ⟨_, rfl⟩
  rw [← hT] at hE
  go_enter Tryd.func21, Tryd.ntmps21
  go_upto_region 1 with fail
  rw [← hb_b1, ← hw_w1]
  clear hb_b1 hw_w1
  go_cut [32] (fun v wx => v = .bool T ∧ wx = w1)
  case first =>
    go_wp2_with fail
    all_goals
      go_meet
      refine ⟨?_, rfl⟩
      rw [hT]
      unfold pkT
      try simp only [*, decide_true, Bool.true_or, Bool.false_or, Bool.or_false, Bool.or_true]
      try (rw [decide_eq_false (show ¬ a < 0 by omega), decide_eq_false (show ¬ 4 < a by omega), decide_eq_false (show ¬ b < 0 by omega), decide_eq_false (show ¬ 4 < b by omega), decide_eq_false (show ¬ d < 1 by omega)]; rfl)
  case rest =>
  obtain ⟨rfl, rfl⟩ := hcut
  clear hT
  cases T
  rotate_left
  · rw [if_pos rfl, if_pos (by decide)] at hE
    subst hE
    rw [if_neg (by decide)] at hS
    subst hS
    go_wp2
    go_ret
    exact ⟨rfl, FIN.out _ HO1.out⟩
  rw [if_neg (show ¬ false = true by simp)] at hE
  by_cases hab : a = b
  · rw [if_pos hab, if_pos (by decide)] at hE
    subst hE
    rw [if_neg (by decide)] at hS
    subst hS
    have t1 : (a == b) = true := by simpa using hab
    have HAB := Lib.hid hab
    clear hab
    go_wp2
    go_ret
    exact ⟨rfl, FIN.out _ HO1.out⟩
  rw [if_neg hab, if_neg (by simp)] at hE
  have t1 : (a == b) = false := by simpa using hab
  by_cases h40 : 40 ≤ L
  · rw [if_pos h40] at hE
    subst hE
    rw [if_neg (by decide)] at hS
    subst hS
    have t2 : decide ((40 : Int) ≤ (L : Int)) = true := decide_eq_true (by omega)
    have HAB := Lib.hid hab
    clear hab
    go_wp2
    go_ret
    exact ⟨rfl, FIN.out _ HO1.out⟩
  rw [if_neg h40] at hE
  subst hE
  rw [if_pos rfl] at hS
  have t2 : decide ((40 : Int) ≤ (L : Int)) = false := decide_eq_false (by omega)
  have HOA : Hid (Own w0 (Sl 23 3 (.slice ad L cap) L (s.all.flatMap evCells) * (rnBlk p (.slice ad L cap) B * (PkO b1 (a, b, d) * R))) wc) := Lib.hid (HO1.out.rn_all.perm (by unfold PkSl; rw [← HL.out]))
  have HAB := Lib.hid hab; have HS := Lib.hid hS
  clear hab hS
  go_upto_region 7 with fail
  refine wp_region_planH 10 [] [(true, 0), (true, 1), (true, 2), (true, 3), (true, 4), (true, 5), (false, 6), (false, 7), (true, 8), (true, 9)] [10] (fun wS => wS.cell? ⟨p, 0, none⟩ = some (.slice ad L cap) ∧ wS.cell? ⟨b1, 0, none⟩ = some (.int .i64 a) ∧ wS.cell? ⟨b1, 1, none⟩ = some (.int .i64 b) ∧ wS.cell? ⟨b1, 2, none⟩ = some (.int .i64 d)) (by kernel_rfl) (by kernel_rfl) (⟨c0, x0, x1, x2⟩) ?_
  simp only [pickH, pick, List.getElem?_cons_succ, List.getElem?_cons_zero, Option.toList, Option.map_some, List.cons_append, List.nil_append]
  repeat (refine wpPure_step ?_ rfl ?_ ?_; rotate_left; (focus (intro _; first | with_reducible rfl | (go_simp; done) | (go_simp; with_reducible rfl) | rfl)); go_simp)
  refine wpPure_nil ?_
  repeat (refine wpMix_read ?_ rfl ?_ ?_; rotate_left; (focus (intro _ hS; obtain ⟨s1, s2, s3, s4⟩ := hS; first | with_reducible rfl | (go_simp; done) | (go_simp; with_reducible rfl) | rfl)); go_simp)
  refine wpMix_write (fun K hK => ?_)
  go_simp
  obtain ⟨b2, hb_b2⟩ : ∃ zz_, zz_ = (wc).heap.size := ⟨_, rfl⟩
  obtain ⟨w2, hw_w2⟩ : ∃ zz_, zz_ = (wc).alloc (.cells #[.int .i64 a, .int .i64 b, .int .i64 d] 23 (0, 0)) := ⟨_, rfl⟩
  have h_HB2 := (HOA.out).alloc (.cells #[.int .i64 a, .int .i64 b, .int .i64 d] 23 (0, 0))
  rw [← hb_b2, ← hw_w2] at h_HB2
  have HB2 := Lib.hid h_HB2
  clear h_HB2
  rw [← hb_b2, ← hw_w2]
  clear hb_b2 hw_w2
  have HB3 : Hid (Own w0 (Sl 23 3 (.slice ad L cap) L (s.all.flatMap evCells) * (rnBlk p (.slice ad L cap) B * (PkO b1 (a, b, d) * (PkO b2 (a, b, d) * R)))) w2.drew) := Lib.hid (HB2.out.drew.perm (by unfold PkO; ac_rfl))
  clear HB2 HOA c0 x0 x1 x2
  have c0 : w2.drew.cell? ⟨p, 0, none⟩ = some (.slice ad L cap) := (HB3.out.second.cell 0).trans rfl
  obtain ⟨x0, x1, x2⟩ := HB3.out.third.pk
  simp only at x0 x1 x2
  refine hK _ _ ⟨⟨c0, x0, x1, x2⟩, ?_⟩
  clear hK K
  go_simp
  refine wpMix_write (fun K hK => ?_)
  have hsrc : Rd w2.drew (.slice (some ⟨b2, 0, none⟩) 1 1) 1 [.int .i64 a, .int .i64 b, .int .i64 d] := Rd_one (fun i u hi => by
    rw [HB3.out.fourth.cell]
    match i, hi with
    | 0, hi => exact hi
    | 1, hi => exact hi
    | 2, hi => exact hi) (Nat.le_refl _) (by unfold maxLen; omega)
  refine step_app rfl _ _ 26 rfl 23 3 24 _ info_pk Tryd.underlying26 rfl (by decide) (by rfl) HB3.out (by rfl) (by rfl) hsrc (by intro u hu; simp at hu; rcases hu with rfl | rfl | rfl <;> rfl) (by unfold maxLen; omega) (by omega) ?_
  intro v5 w5 ho5
  obtain ⟨ad5, cp5, hv5, _⟩ := Own.rd ho5
  subst hv5
  clear c0 x0 x1 x2 hsrc
  have c0 : w5.cell? ⟨p, 0, none⟩ = some (.slice ad L cap) := (ho5.second.cell 0).trans rfl
  have f0 := ho5.second.free 0 none
  obtain ⟨x0, x1, x2⟩ := ho5.third.pk
  simp only at x0 x1 x2
  have HF := Lib.hid (rn_app (q := (a, b, d)) HB.out HL.out ho5)
  rw [← HS.out] at HF
  clear ho5
  refine hK _ _ ⟨⟨c0, x0, x1, x2⟩, ?_⟩
  clear hK K
  go_simp
  repeat (refine wpMix_read ?_ rfl ?_ ?_; rotate_left; (focus (intro _ hS; obtain ⟨s1, s2, s3, s4⟩ := hS; first | with_reducible rfl | (go_simp; done) | (go_simp; with_reducible rfl) | rfl)); go_simp)
  refine wpMix_nil ?_
  go_wp2_with fail
  refine NoPanic.normal ?_
  go_wp2
  go_ret
  exact ⟨rfl, HF.out.second.drop.second.drop⟩
end Go.Proofs.YtldmdenojpnldaaDoor
