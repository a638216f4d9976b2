/- Contracts of package view: Next. -/
import Derived.Test.YtdeeephdojflpaaDoorView3
namespace Go.Proofs.YtdeeephdojflpaaDoor
set_option linter.unusedVariables false
set_option linter.unusedSimpArgs false
open Go.RowKit
def nextErr (n : Int) (A B : List Int) : Nat := if viewErr n A ≠ 0 then viewErr n A else if n = 1000000 then 4 else if memErr B ≠ 0 then memErr B else if mostB A B = false then 8 else 0
def nextN (n : Int) (A B : List Int) : Int := if nextErr n A B = 0 then n + 1 else 0
def nextHas (n : Int) (A B : List Int) : List Int := if nextErr n A B = 0 then B else []
theorem memGo_len : ∀ (l : List Int) (last : Int), -1 ≤ last → memGo last l = 0 → (l.length : Int) + last ≤ 4 ∨ l = []
  | [], last, h, _ => .inr rfl
  | m :: r, last, h, he => by
    unfold memGo at he
    split at he
    · cases he
    rename_i h1
    split at he
    · cases he
    rename_i h2
    have hm : 0 ≤ m ∧ m < 5 := by simpa [isMember] using h1
    left
    rcases memGo_len r m (by omega) he with h3 | h3
    · simp only [List.length_cons]; omega
    · subst h3; simp; omega
theorem memErr_len {l : List Int} (h : memErr l = 0) : 1 ≤ l.length ∧ l.length ≤ 5 := by
  unfold memErr at h
  split at h
  · cases h
  rename_i h0
  have hp : 0 < l.length := by cases l with | nil => exact absurd rfl h0 | cons a r => simp
  rcases memGo_len l (-1) (by omega) h with h1 | h1
  · omega
  · exact absurd h1 h0
theorem viewErr0 {n : Int} {A : List Int} (h : viewErr n A = 0) : (0 ≤ n ∧ n ≤ 1000000) ∧ memErr A = 0 := by
  unfold viewErr at h
  split at h
  · cases h
  rename_i h1
  exact ⟨by simpa [isCount] using h1, h⟩
theorem errV_pos {E : Nat} (h : E ≠ 0) : errV E = .iface 129 (.int .i64 (E : Int)) := by
  cases E with
  | zero => exact absurd rfl h
  | succ k => rfl
def VwO (b : Nat) (n : Int) (v : Value) : HProp := blk b (.cells #[.int .i64 n, v] 68 (0, 0))
theorem Own.vw {w0 w : World} {b : Nat} {n : Int} {v : Value} {R : HProp} (h : Own w0 (VwO b n v * R) w) : w.cell? ⟨b, 0, none⟩ = some (.int .i64 n) ∧ w.cell? ⟨b, 1, none⟩ = some v ∧ ∀ i s, w.frozen? ⟨b, i, s⟩ = false :=
  ⟨by rw [Own.cell h]; rfl, by rw [Own.cell h]; rfl, fun i s => Own.free h i s⟩
theorem Own.vw_put {w0 w : World} {b : Nat} {n : Int} {v : Value} {R : HProp} (n' : Int) (v' : Value) (h : Own w0 (VwO b n v * R) w) : Own w0 (VwO b n' v' * R) ((w.setCell ⟨b, 0, none⟩ (.int .i64 n')).setCell ⟨b, 1, none⟩ v') :=
  (Own.setCell (i := 1) (v := v') (Own.setCell (i := 0) (v := .int .i64 n') h)).perm rfl
set_option maxRecDepth 100000 in
set_option maxHeartbeats 4000000 in
theorem viewNext_no1 {w0 w : World} {R : HProp} (n : Int) (va vb : Value) (A B : List Int) (hA : Reads w0 R va A) (hB : Reads w0 R vb B) (h : Own w0 R w) (he : viewErr n A ≠ 0) :
    Calls Tryd.prog 36 #[.agg #[.int .i64 n, va], vb] w fun e w' => e = .returned (.tuple #[.agg #[.int .i64 0, .slice none 0 0], errV (viewErr n A)]) ∧ Own w0 R w' := by
  obtain ⟨ad, acap, hva, hac, hac2⟩ := (hA _ h).shape
  subst hva
  obtain ⟨b1, hb1⟩ : ∃ c, c = w.heap.size := ⟨_, rfl⟩
  have h1 := h.alloc (.cells #[.int .i64 n, .slice ad A.length acap] 68)
  rw [← hb1] at h1
  have h2 := h1.alloc (.cells #[.int .i64 0, .slice none 0 0] 68)
  obtain ⟨b2, hb2⟩ : ∃ c, c = (w.alloc (.cells #[.int .i64 n, .slice ad A.length acap] 68)).heap.size := ⟨_, rfl⟩
  rw [← hb2] at h2
  obtain ⟨w1, hw1⟩ : ∃ w1, w1 = (w.alloc (.cells #[.int .i64 n, .slice ad A.length acap] 68)).alloc (.cells #[.int .i64 0, .slice none 0 0] 68) := ⟨_, rfl⟩
  rw [← hw1] at h2
  have hb2' : w.heap.size + 1 = b2 := by rw [hb2]; simp
  have HO : Hid (Own w0 (VwO b2 0 (.slice none 0 0) * (VwO b1 n (.slice ad A.length acap) * R)) w1) := Lib.hid h2
  obtain ⟨c0, c1, _⟩ := (HO.out.perm (star_left_comm _ _ _)).vw
  have hee := errV_pos he
  have HAM : Hid (Reads w0 (VwO b2 0 (.slice none 0 0) * (VwO b1 n (.slice ad A.length acap) * R)) (.slice ad A.length acap) A) := Lib.hid hA.more.more
  have H := Lib.hid h; have HA := Lib.hid hA; have HB := Lib.hid hB; have HB2 := Lib.hid hb2; have HE := Lib.hid he
  clear h hA hB hb2 he
  clear h1 h2
  go_enter Tryd.func36, Tryd.ntmps36
  go_upto_region 1 with fail
  rw [← hb1, ← hw1]
  clear hb1 hw1 hb2'
  go_wp2_with fail
  refine (viewCheck_any n _ A HO.out HAM.out).mono ?_
  rintro e w2 ⟨rfl, ho⟩
  rw [hee]
  have HO2 := Lib.hid ho
  obtain ⟨d0, d1, d2⟩ := ho.vw
  have d20 := d2 0 none
  have d21 := d2 1 none
  have HEE := Lib.hid hee
  clear ho hee d2
  have hput := HO2.out.vw_put 0 (.slice none 0 0)
  obtain ⟨p0, p1, _⟩ := hput.vw
  have HO3 := Lib.hid hput.drop.drop
  clear hput
  go_wp2_with fail
  exact bodyPost_ret (v := .tuple #[.agg #[.int .i64 0, .slice none 0 0], errV (viewErr n A)]) (by simp [results, Tryd.results36, go_sem, p0, p1]; exact HEE.out.symm) rfl ⟨rfl, HO3.out⟩
def NextPost (w0 : World) (R : HProp) (n : Int) (A B : List Int) (e : Ending) (w' : World) : Prop :=
  ∃ v', e = .returned (.tuple #[.agg #[.int .i64 (nextN n A B), v'], errV (nextErr n A B)]) ∧ Own w0 (IntSl v' (nextHas n A B) * R) w'
theorem NextPost.no {w0 w' : World} {R : HProp} {n : Int} {A B : List Int} {E : Nat} {x : Value} (h : nextErr n A B = E) (hE : E ≠ 0) (hx : x = errV E) (ho : Own w0 R w') : NextPost w0 R n A B (.returned (.tuple #[.agg #[.int .i64 0, .slice none 0 0], x])) w' := by
  subst h; subst hx
  exact ⟨.slice none 0 0, by unfold nextN; rw [if_neg hE], by unfold nextHas; rw [if_neg hE]; exact ho.sl_nil _ _⟩
set_option maxRecDepth 100000 in
set_option maxHeartbeats 4000000 in
theorem viewNext_rest {w0 w : World} {R : HProp} (n : Int) (va vb : Value) (A B : List Int) (hA : Reads w0 R va A) (hB : Reads w0 R vb B) (h : Own w0 R w) (he : viewErr n A = 0) :
    Calls Tryd.prog 36 #[.agg #[.int .i64 n, va], vb] w fun e w' => NextPost w0 R n A B e w' := by
  obtain ⟨ad, acap, hva, hac, hac2⟩ := (hA _ h).shape
  subst hva
  obtain ⟨b1, hb1⟩ : ∃ c, c = w.heap.size := ⟨_, rfl⟩
  have h1 := h.alloc (.cells #[.int .i64 n, .slice ad A.length acap] 68)
  rw [← hb1] at h1
  have h2 := h1.alloc (.cells #[.int .i64 0, .slice none 0 0] 68)
  obtain ⟨b2, hb2⟩ : ∃ c, c = (w.alloc (.cells #[.int .i64 n, .slice ad A.length acap] 68)).heap.size := ⟨_, rfl⟩
  rw [← hb2] at h2
  obtain ⟨w1, hw1⟩ : ∃ w1, w1 = (w.alloc (.cells #[.int .i64 n, .slice ad A.length acap] 68)).alloc (.cells #[.int .i64 0, .slice none 0 0] 68) := ⟨_, rfl⟩
  rw [← hw1] at h2
  have hb2' : w.heap.size + 1 = b2 := by rw [hb2]; simp
  have HO : Hid (Own w0 (VwO b2 0 (.slice none 0 0) * (VwO b1 n (.slice ad A.length acap) * R)) w1) := Lib.hid h2
  obtain ⟨c0, c1, _⟩ := (HO.out.perm (star_left_comm _ _ _)).vw
  have HAM : Hid (Reads w0 (VwO b2 0 (.slice none 0 0) * (VwO b1 n (.slice ad A.length acap) * R)) (.slice ad A.length acap) A) := Lib.hid hA.more.more
  have HBM : Hid (Reads w0 (VwO b2 0 (.slice none 0 0) * (VwO b1 n (.slice ad A.length acap) * R)) vb B) := Lib.hid hB.more.more
  obtain ⟨hnb, hmA⟩ := viewErr0 he
  have hA5 := (memErr_len hmA).2
  have hn1 := hnb.1
  have hn2 := hnb.2
  have hne : nextErr n A B = if n = 1000000 then 4 else if memErr B ≠ 0 then memErr B else if mostB A B = false then 8 else 0 := by unfold nextErr; rw [he]; rfl
  have H := Lib.hid h; have HA := Lib.hid hA; have HB := Lib.hid hB; have HB2 := Lib.hid hb2; have HE := Lib.hid he; have HMA := Lib.hid hmA; have HNE := Lib.hid hne
  clear h hA hB hb2 he hmA hne
  clear h1 h2 hnb
  go_enter Tryd.func36, Tryd.ntmps36
  go_upto_region 1 with fail
  rw [← hb1, ← hw1]
  clear hb1 hw1 hb2'
  go_wp2_with fail
  refine (viewCheck_any n _ A HO.out HAM.out).mono ?_
  rintro e w2 ⟨rfl, ho⟩
  rw [HE.out]
  have HO2 := Lib.hid ho
  obtain ⟨d0, d1, d2⟩ := ho.vw
  have d20 := d2 0 none
  have d21 := d2 1 none
  obtain ⟨f0, f1, _⟩ := (ho.perm (star_left_comm _ _ _)).vw
  clear ho d2 c0 c1
  rw [errV0]
  by_cases hM : n = 1000000
  · have hE : nextErr n A B = 4 := by rw [HNE.out, if_pos hM]
    have t1 : (n == 1000000) = true := by rw [beq_iff_eq]; exact hM
    have hput := HO2.out.vw_put 0 (.slice none 0 0)
    obtain ⟨p0, p1, _⟩ := hput.vw
    have HO3 := Lib.hid hput.drop.drop
    have HE_ := Lib.hid hE
    clear hE
    have HM := Lib.hid hM
    clear hM
    clear hput
    go_wp2_with fail
    exact bodyPost_ret (v := .tuple #[.agg #[.int .i64 0, .slice none 0 0], errV 4]) (by simp [results, Tryd.results36, go_sem, p0, p1]; rfl) rfl (NextPost.no HE_.out (by simp) rfl HO3.out)
  have t1 : (n == 1000000) = false := by rw [beq_eq_false_iff_ne]; exact hM
  by_cases hmB : memErr B = 0
  rotate_left
  · have hE : nextErr n A B = memErr B := by rw [HNE.out, if_neg hM, if_pos hmB]
    have hee := errV_pos hmB
    have hput := HO2.out.vw_put 0 (.slice none 0 0)
    obtain ⟨p0, p1, _⟩ := hput.vw
    have HO3 := Lib.hid hput.drop.drop
    have HE_ := Lib.hid hE
    clear hE
    have HM := Lib.hid hM; have HEE := Lib.hid hee; have HMB := Lib.hid hmB
    clear hM hee hmB
    clear hput
    go_wp2_with fail
    refine (members_any vb B _ (HBM.out _ HO2.out)).mono ?_
    rintro e w' ⟨rfl, rfl⟩
    rw [HEE.out]
    go_wp2_with fail
    exact bodyPost_ret (v := .tuple #[.agg #[.int .i64 0, .slice none 0 0], errV (memErr B)]) (by simp [results, Tryd.results36, go_sem, p0, p1]; exact HEE.out.symm) rfl (NextPost.no HE_.out HMB.out rfl HO3.out)
  have hB5 := (memErr_len hmB).2
  have hee : errV (memErr B) = .nilIface := by rw [hmB]; rfl
  cases hmo : mostB A B
  · have hE : nextErr n A B = 8 := by rw [HNE.out, if_neg hM, if_neg (by rw [hmB]; simp), if_pos hmo]
    have HE_ := Lib.hid hE
    clear hE
    have HM := Lib.hid hM; have HEE := Lib.hid hee; have HMB := Lib.hid hmB; have HMO := Lib.hid hmo
    clear hM hee hmB hmo
    go_wp2_with fail
    refine (members_any vb B _ (HBM.out _ HO2.out)).mono ?_
    rintro e w' ⟨rfl, rfl⟩
    rw [HEE.out]
    go_wp2_with fail
    refine (most_any _ vb A B HAM.out HBM.out (by omega) HO2.out).mono ?_
    rintro e w3 ⟨rfl, ho⟩
    rw [HMO.out]
    obtain ⟨_, _, g2⟩ := ho.vw
    have g20 := g2 0 none
    have g21 := g2 1 none
    have q0 := ho.vw.1
    have q1 := ho.vw.2.1
    have hput := ho.vw_put 0 (.slice none 0 0)
    obtain ⟨p0, p1, _⟩ := hput.vw
    have HO3 := Lib.hid hput.drop.drop
    clear hput ho g2
    go_wp2_with fail
    exact bodyPost_ret (v := .tuple #[.agg #[.int .i64 0, .slice none 0 0], errV 8]) (by simp [results, Tryd.results36, go_sem, p0, p1]; rfl) rfl (NextPost.no HE_.out (by simp) rfl HO3.out)
  · have hE : nextErr n A B = 0 := by rw [HNE.out, if_neg hM, if_neg (by rw [hmB]; simp), if_neg (by rw [hmo]; simp)]
    have HE_ := Lib.hid hE
    clear hE
    have HM := Lib.hid hM; have HEE := Lib.hid hee; have HMB := Lib.hid hmB; have HMO := Lib.hid hmo
    clear hM hee hmB hmo
    go_wp2_with fail
    refine (members_any vb B _ (HBM.out _ HO2.out)).mono ?_
    rintro e w' ⟨rfl, rfl⟩
    rw [HEE.out]
    go_wp2_with fail
    refine (most_any _ vb A B HAM.out HBM.out (by omega) HO2.out).mono ?_
    rintro e w3 ⟨rfl, ho⟩
    rw [HMO.out]
    have HO3 := Lib.hid ho
    obtain ⟨q0, q1, g2⟩ := ho.vw
    obtain ⟨r0, r1, _⟩ := (ho.perm (star_left_comm _ _ _)).vw
    have g20 := g2 0 none
    have g21 := g2 1 none
    clear ho g2
    go_wp2_with fail
    refine wp_region_planH 6 [] [(true, 0), (true, 1), (true, 2), (true, 3), (false, 4), (true, 5)] [6, 7] (fun wS => wS.cell? ⟨b1, 0, none⟩ = some (.int .i64 n)) (by kernel_rfl) (by kernel_rfl) (r0) ?_
    simp only [pickH, pick, List.getElem?_cons_succ, List.getElem?_cons_zero, Option.toList, Option.map_some, List.cons_append, List.nil_append]
    repeat (refine wpPure_step ?_ rfl ?_ ?_; rotate_left; (focus (intro _; first | with_reducible rfl | (go_simp; done) | (go_simp; with_reducible rfl) | rfl)); go_simp)
    refine wpPure_nil ?_
    repeat (refine wpMix_read ?_ rfl ?_ ?_; rotate_left; (focus (intro _ hS; obtain s1 := hS; first | with_reducible rfl | (go_simp; done) | (go_simp; with_reducible rfl) | rfl)); go_simp)
    refine wpMix_write (fun K hK => ?_)
    go_simp
    refine (cloneInts_any HO3.out.drew vb B (HBM.out _ HO3.out.drew) (by omega)).mono ?_
    rintro e w4 ⟨v4, rfl, ho⟩
    obtain ⟨x1, x2, x3⟩ := (ho.perm (star_left_comm _ _ _)).vw
    obtain ⟨y1, _, _⟩ := (ho.perm (show _ = VwO b1 n (.slice ad A.length acap) * (IntSl v4 B * (VwO b2 0 (.slice none 0 0) * R)) by ac_rfl)).vw
    have x30 := x3 0 none
    have x31 := x3 1 none
    obtain ⟨ad4, cap4, hv4, _⟩ := Own.rd ho
    subst hv4
    have HO4 := Lib.hid ho
    have hput := (ho.perm (star_left_comm _ _ _)).vw_put (n + 1) (.slice ad4 B.length cap4)
    obtain ⟨p0, p1, _⟩ := hput.vw
    have HPUT := Lib.hid hput.drop
    clear ho hput x3
    refine hK _ _ ⟨y1, ?_⟩
    clear hK K
    go_simp
    repeat (refine wpMix_read ?_ rfl ?_ ?_; rotate_left; (focus (intro _ hS; obtain s1 := hS; first | with_reducible rfl | (go_simp; done) | (go_simp; with_reducible rfl) | rfl)); go_simp)
    refine wpMix_nil ?_
    go_wp2_with fail
    refine NoPanic.normal ?_
    go_wp2_with fail
    have hfin := (HPUT.out.perm (show _ = VwO b1 n (.slice ad A.length acap) * (IntSl (.slice ad4 B.length cap4) B * R) by ac_rfl)).drop
    exact bodyPost_ret (v := .tuple #[.agg #[.int .i64 (n + 1), .slice ad4 B.length cap4], .nilIface]) (by simp [results, Tryd.results36, go_sem, p0, p1]) rfl ⟨_, by unfold nextN; rw [if_pos HE_.out, HE_.out]; rfl, by unfold nextHas; rw [if_pos HE_.out]; exact hfin⟩
theorem viewNext_any {w0 w : World} {R : HProp} (n : Int) (va vb : Value) (A B : List Int) (hA : Reads w0 R va A) (hB : Reads w0 R vb B) (h : Own w0 R w) :
    Calls Tryd.prog 36 #[.agg #[.int .i64 n, va], vb] w fun e w' => NextPost w0 R n A B e w' := by
  by_cases he : viewErr n A = 0
  · exact viewNext_rest n va vb A B hA hB h he
  · refine (viewNext_no1 n va vb A B hA hB h he).mono ?_
    rintro e w' ⟨rfl, ho⟩
    have hE : nextErr n A B = viewErr n A := by unfold nextErr; rw [if_pos he]
    exact NextPost.no hE he rfl ho
end Go.Proofs.YtdeeephdojflpaaDoor
