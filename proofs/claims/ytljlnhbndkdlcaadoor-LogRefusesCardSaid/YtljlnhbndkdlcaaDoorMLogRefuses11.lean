/- LogRefuses: a word that was not said, and one that was, leave no byte. -/
import Derived.Test.YtljlnhbndkdlcaaDoorMLogRefuses10
import Derived.Test.YtljlnhbndkdlcaaDoorMLogRefuses2
import Derived.Test.YtljlnhbndkdlcaaDoorRows
import Derived.ProofKit
import Derived.KernelRfl
namespace Go.Proofs.YtljlnhbndkdlcaaDoor
set_option linter.unusedVariables false
set_option linter.unusedSimpArgs false
open Go.RowKit
theorem histGo_last (ahead : List Ev) (x : Ev) : (histGo ahead [x]).2 = evErr ahead x := by
  rw [histGo]
  by_cases h : evErr ahead x = 0
  · rw [if_neg (by simpa using h), histGo, h]
  · rw [if_pos h]
theorem histR_one (x : Ev) : (histR ([] ++ [x])).2 = evErr [] x := by
  unfold histR
  rw [if_neg (by simp)]
  exact histGo_last [] x
theorem histR_two (x y : Ev) (h : evErr [] x = 0) : (histR ([x] ++ [y])).2 = evErr [x] y := by
  unfold histR
  rw [if_neg (by simp)]
  show (histGo [] [x, y]).2 = _
  rw [histGo, if_neg (by simpa using h)]
  exact histGo_last [x] y
def lrIn (who w : Int) : Prop := (0 ≤ who ∧ who < 5) ∧ (1 ≤ w ∧ w ≤ 30)
theorem lr_right {who w : Int} (h : lrIn who w) (k : Int) (hk : k = 2 ∨ k = 3) : rightB (who, k, w) = true := by
  obtain ⟨⟨h1, h2⟩, h3, h4⟩ := h
  unfold rightB isMember isWord
  rcases hk with rfl | rfl <;> simp [h1, h2, h3, h4]
theorem lr_wrong {who w : Int} (h : ¬ lrIn who w) : rightB (who, 3, w) = false := by
  unfold lrIn at h
  unfold rightB isMember isWord
  simp
  omega
theorem lr1 {who w : Int} (h : ¬ lrIn who w) : lgErr lgNew (who, 3, w) = 1 ∧ lgDo lgNew (who, 3, w) = lgNew := by
  have he : evErr [] (who, 3, w) = 1 := by unfold evErr; rw [if_pos (lr_wrong h)]
  have hh : (histR (lgNew.h ++ [(who, 3, w)])).2 = 1 := by rw [show lgNew.h = [] from rfl, histR_one, he]
  unfold lgErr lgDo
  rw [hh]
  exact ⟨rfl, rfl⟩
theorem lr2 {who w : Int} (h : lrIn who w) : lgErr lgNew (who, 3, w) = 5 ∧ lgDo lgNew (who, 3, w) = lgNew := by
  have he : evErr [] (who, 3, w) = 5 := by
    unfold evErr
    rw [if_neg (by rw [lr_right h 3 (.inr rfl)]; simp), if_neg (by simp), if_pos (by simp [saidAt, whereI])]
  have hh : (histR (lgNew.h ++ [(who, 3, w)])).2 = 5 := by rw [show lgNew.h = [] from rfl, histR_one, he]
  unfold lgErr lgDo
  rw [hh]
  exact ⟨rfl, rfl⟩
def lrS (who w : Int) : Lg := ⟨[(who, 2, w)], encE (who, 2, w), 0, -1, false⟩
theorem lr_say {who w : Int} (h : lrIn who w) : evErr [] (who, 2, w) = 0 := by
  unfold evErr
  rw [if_neg (by rw [lr_right h 2 (.inl rfl)]; simp), if_neg (by simp [saidAt, whereI]), if_neg (by simp), if_neg (by simp)]
theorem lr3 {who w : Int} (h : lrIn who w) : lgErr lgNew (who, 2, w) = 0 ∧ lgDo lgNew (who, 2, w) = lrS who w := by
  have hh : (histR (lgNew.h ++ [(who, 2, w)])).2 = 0 := by rw [show lgNew.h = [] from rfl, histR_one, lr_say h]
  unfold lgErr lgDo
  rw [hh]
  exact ⟨rfl, rfl⟩
theorem lr4 {who x w : Int} (h : lrIn who w) (hx : lrIn x w) : lgErr (lrS who w) (x, 2, w) = 7 ∧ lgDo (lrS who w) (x, 2, w) = lrS who w := by
  have he : evErr [(who, 2, w)] (x, 2, w) = 7 := by
    unfold evErr
    rw [if_neg (by rw [lr_right hx 2 (.inl rfl)]; simp), if_pos (.inl ⟨rfl, by simp [saidAt, whereI, saysB]⟩)]
  have hh : (histR ((lrS who w).h ++ [(x, 2, w)])).2 = 7 := by rw [show (lrS who w).h = [(who, 2, w)] from rfl, histR_two _ _ (lr_say h), he]
  unfold lgErr lgDo
  rw [hh]
  exact ⟨rfl, rfl⟩
set_option maxRecDepth 100000 in
set_option maxHeartbeats 4000000 in
theorem logRefuses_no (w : World) (hg : As.Handle w) (who : Int) (hw : I64 who) (wd : Int) (hd : I64 wd) (hn : ¬ lrIn who wd) :
    Calls Tryd.prog 3 #[.int .i64 who, .int .i64 wd] w fun e w' => e = .returned (.bool true) ∧ Below w.heap.size w w' := by
  have HO0 := Lib.hid (Own.start w)
  obtain ⟨h1, h2⟩ := lr1 hn
  have hcs : who < 0 ∨ (¬ who < 0 ∧ 4 < who) ∨ (¬ who < 0 ∧ ¬ 4 < who ∧ wd < 1) ∨ (¬ who < 0 ∧ ¬ 4 < who ∧ ¬ wd < 1 ∧ 30 < wd) := by unfold lrIn at hn; omega
  have HG := Lib.hid hg; have HW := Lib.hid hw; have HD := Lib.hid hd; have HN := Lib.hid hn; have H1 := Lib.hid h1; have H2 := Lib.hid h2
  clear hg hw hd hn h1 h2
  go_enter Tryd.func3, Tryd.ntmps3
  go_wp2_with fail
  refine (lgNew_any HO0.out).mono ?_
  rintro e w1 ⟨p, rfl, ho⟩
  have HO1 := Lib.hid ho
  clear ho HO0
  go_wp2_with fail
  refine (lgDo_any p lgNew (who, 3, wd) lgNew_I ⟨HW.out, by unfold I64; simp, HD.out⟩ HO1.out).mono ?_
  rintro e w2 ⟨rfl, ho⟩
  rw [H1.out]
  rw [H2.out] at ho
  have HO2 := Lib.hid ho
  clear ho HO1
  have HSE : Hid (∀ wq, Own w (LgP p lgNew * emp) wq → Calls Tryd.prog 9 #[errV 1, .int .i64 1] wq fun e w' => e = .returned (.bool true) ∧ Own w (LgP p lgNew * emp) w') := Lib.hid (fun wq hq => sameErr_any HG.out 1 1 hq)
  obtain ⟨E, hE⟩ : ∃ E, E = errV 1 := ⟨_, rfl⟩
  rw [← hE] at HSE ⊢
  clear hE
  rcases hcs with q1 | ⟨q1, q2⟩ | ⟨q1, q2, q3⟩ | ⟨q1, q2, q3, q4⟩
  all_goals
    go_wp2_with fail
    refine (HSE.out _ HO2.out).mono ?_
    rintro e w3 ⟨rfl, ho⟩
    have HO3 := Lib.hid ho
    clear ho
    go_wp2_with fail
    refine (lgBytes_any p lgNew lgNew_I HO3.out).mono ?_
    rintro e w' ⟨rfl, rfl⟩
    go_wp2
    go_ret
    exact ⟨rfl, HO3.out.below⟩
set_option maxRecDepth 100000 in
set_option maxHeartbeats 4000000 in
theorem logRefuses_yes (w : World) (hg : As.Handle w) (who : Int) (hw : I64 who) (wd : Int) (hd : I64 wd) (hn : lrIn who wd) :
    Calls Tryd.prog 3 #[.int .i64 who, .int .i64 wd] w fun e w' => e = .returned (.bool true) ∧ Below w.heap.size w w' := by
  have HO0 := Lib.hid (Own.start w)
  obtain ⟨h1, h2⟩ := lr2 hn
  obtain ⟨h3, h4⟩ := lr3 hn
  have hwn := hn.1.1
  obtain ⟨z, hz⟩ : ∃ z : Nat, who = (z : Int) := ⟨who.toNat, by omega⟩
  have hz5 : (z : Int) < 5 := by have := hn.1.2; omega
  have hx : lrIn (((z : Int) + 1) % 5) wd := ⟨by omega, hn.2⟩
  subst hz
  obtain ⟨X, hX⟩ : ∃ X, X = ((z : Int) + 1) % 5 := ⟨_, rfl⟩
  rw [← hX] at hx
  obtain ⟨h5, h6⟩ := lr4 hn hx
  have q1 : ¬ (z : Int) < 0 := by omega
  have q2 : ¬ 4 < (z : Int) := by omega
  have q3 : ¬ wd < 1 := by have := hn.2; omega
  have q4 : ¬ 30 < wd := by have := hn.2; omega
  have hXI : I64 X := by unfold I64; omega
  have hIs : LgI (lrS z wd) := by rw [← h4]; exact lgNew_I.do _
  obtain ⟨K, hK⟩ : ∃ K, K = (lrS z wd).bs.length := ⟨_, rfl⟩
  have hK2 : 2 ≤ K := by
    rw [hK]
    have := encE_len (evErr_ok (lr_say hn))
    show 2 ≤ (encE ((z : Int), 2, wd)).length
    omega
  have hXe : ((z : Int) + 1) % 5 = X := hX.symm
  have HG := Lib.hid hg; have HW := Lib.hid hw; have HD := Lib.hid hd; have HN := Lib.hid hn; have H1 := Lib.hid h1; have H2 := Lib.hid h2; have H3 := Lib.hid h3; have H4 := Lib.hid h4; have H5 := Lib.hid h5; have H6 := Lib.hid h6; have HX := Lib.hid hx; have HXI := Lib.hid hXI; have HIS := Lib.hid hIs; have HK := Lib.hid hK; have HX := Lib.hid hX
  clear hg hw hd hn h1 h2 h3 h4 h5 h6 hx hXI hIs hK hX
  go_enter Tryd.func3, Tryd.ntmps3
  go_wp2_with fail
  refine (lgNew_any HO0.out).mono ?_
  rintro e w1 ⟨p, rfl, ho⟩
  have HO1 := Lib.hid ho
  clear ho HO0
  go_wp2_with fail
  refine (lgDo_any p lgNew ((z : Int), 3, wd) lgNew_I ⟨HW.out, by unfold I64; simp, HD.out⟩ HO1.out).mono ?_
  rintro e w2 ⟨rfl, ho⟩
  rw [H1.out]
  rw [H2.out] at ho
  have HO2 := Lib.hid ho
  clear ho HO1
  have HSE : Hid (∀ wq, Own w (LgP p lgNew * emp) wq → Calls Tryd.prog 9 #[errV 5, .int .i64 5] wq fun e w' => e = .returned (.bool true) ∧ Own w (LgP p lgNew * emp) w') := Lib.hid (fun wq hq => sameErr_any HG.out 5 5 hq)
  have HSF : Hid (∀ wq, Own w (LgP p (lrS z wd) * emp) wq → Calls Tryd.prog 9 #[errV 7, .int .i64 7] wq fun e w' => e = .returned (.bool true) ∧ Own w (LgP p (lrS z wd) * emp) w') := Lib.hid (fun wq hq => sameErr_any HG.out 7 7 hq)
  obtain ⟨E, hE⟩ : ∃ E, E = errV 5 := ⟨_, rfl⟩
  rw [← hE] at HSE ⊢
  clear hE
  go_wp2_with fail
  refine (HSE.out _ HO2.out).mono ?_
  rintro e w3 ⟨rfl, ho⟩
  have HO3 := Lib.hid ho
  clear ho HO2
  go_wp2_with fail
  refine (lgBytes_any p lgNew lgNew_I HO3.out).mono ?_
  rintro e w' ⟨rfl, rfl⟩
  go_wp2_with fail
  refine (lgDo_any p lgNew ((z : Int), 2, wd) lgNew_I ⟨HW.out, by unfold I64; simp, HD.out⟩ HO3.out).mono ?_
  rintro e w4 ⟨rfl, ho⟩
  rw [H3.out, errV0]
  rw [H4.out] at ho
  have HO4 := Lib.hid ho
  clear ho HO3
  go_wp2_with fail
  refine (lgBytes_any p _ HIS.out HO4.out).mono ?_
  rintro e w' ⟨rfl, rfl⟩
  rw [← HK.out]
  go_wp2_with fail
  refine (lgDo_any p (lrS z wd) (X, 2, wd) HIS.out ⟨HXI.out, by unfold I64; simp, HD.out⟩ HO4.out).mono ?_
  rintro e w5 ⟨rfl, ho⟩
  rw [H5.out]
  rw [H6.out] at ho
  have HO5 := Lib.hid ho
  clear ho HO4
  obtain ⟨F, hF⟩ : ∃ E, E = errV 7 := ⟨_, rfl⟩
  rw [← hF] at HSF ⊢
  clear hF
  go_wp2_with fail
  refine (HSF.out _ HO5.out).mono ?_
  rintro e w6 ⟨rfl, ho⟩
  have HO6 := Lib.hid ho
  clear ho HO5
  go_wp2_with fail
  refine (lgBytes_any p _ HIS.out HO6.out).mono ?_
  rintro e w' ⟨rfl, rfl⟩
  rw [← HK.out]
  obtain ⟨b7, hb_b7⟩ : ∃ zz_, zz_ = (w6).heap.size := ⟨_, rfl⟩
  obtain ⟨w7, hw_w7⟩ : ∃ zz_, zz_ = (w6).alloc (.cells #[.int .i64 1] 3 (0, 0)) := ⟨_, rfl⟩
  have h_H7 := (HO6.out).alloc (.cells #[.int .i64 1] 3 (0, 0))
  rw [← hb_b7, ← hw_w7] at h_H7
  have H7 := Lib.hid h_H7
  clear h_H7
  have HI7 : Hid (∀ wq : Value × World, Own w (EvSl wq.1 (lrS z wd).h * (LgP p (lrS z wd) * (blk b7 (.cells #[.int .i64 1] 3 (0, 0)) * emp))) wq.2 → Ints wq.2 (.slice (some ⟨b7, 0, none⟩) 1 1) [1]) := Lib.hid (fun wq hq => by
    refine ⟨Rd_one (fun i u hu => ?_) (Nat.le_refl _) (by unfold maxLen; omega), fun x hx => by rw [List.mem_singleton.1 hx]; unfold I64; omega⟩
    rw [(hq.perm (show _ = blk b7 (.cells #[.int .i64 1] 3 (0, 0)) * (EvSl wq.1 (lrS z wd).h * (LgP p (lrS z wd) * emp)) by ac_rfl)).cell, ← hu]
    simp)
  have HO7 : Hid (Own w (LgP p (lrS z wd) * (blk b7 (.cells #[.int .i64 1] 3 (0, 0)) * emp)) w7) := Lib.hid (H7.out.perm (by ac_rfl))
  clear H7 HO6
  go_wp2_with fail
  rw [← hb_b7, ← hw_w7]
  clear hb_b7 hw_w7
  refine (lgAll_any p _ HIS.out HO7.out).mono ?_
  rintro e w8 ⟨v8, rfl, ho⟩
  obtain ⟨ad8, cp8, hv8, _⟩ := Own.rd (show Own w (Sl 28 3 v8 _ _ * _) w8 from ho)
  have hi8 := HI7.out (v8, w8) ho
  subst hv8
  have HO8 := Lib.hid ho
  have HI8 := Lib.hid hi8
  clear ho hi8 HO7 HI7
  go_wp2_with fail
  refine (refAt_any _ [1] _ _ HI8.out (by simp)).mono ?_
  rintro e w' ⟨rfl, rfl⟩
  go_wp2
  go_ret
  exact ⟨rfl, HO8.out.below⟩
set_option maxRecDepth 100000 in
set_option maxHeartbeats 4000000 in
theorem logRefuses_law (w : World) (hg : As.Handle w) (who : Int) (hw : I64 who) (wd : Int) (hd : I64 wd) :
    Calls Tryd.prog 3 #[.int .i64 who, .int .i64 wd] w fun e w' => e = .returned (.bool true) ∧ Below w.heap.size w w' := by
  by_cases h : lrIn who wd
  · exact logRefuses_yes w hg who hw wd hd h
  · exact logRefuses_no w hg who hw wd hd h
end Go.Proofs.YtljlnhbndkdlcaaDoor
/- Closed facts on the program as a whole, each asked once for all statements of the seat. -/
namespace Go.Proofs.YtljlnhbndkdlcaaDoor.facts
set_option linter.unusedVariables false
set_option linter.unusedSimpArgs false
open Go.ChangeShapes Go.WideShapes Go.ChangeAt
theorem words_step (w r : List Char) (h : w.all (fun c => c != Char.ofNat 32) = true) : wordsSigns (w ++ Char.ofNat 32 :: r) = w :: wordsSigns r := by
  induction w with
  | nil => rfl
  | cons c w ih =>
    simp only [List.all_cons, Bool.and_eq_true, bne_iff_ne, ne_eq] at h
    rw [List.cons_append]
    have e : wordsSigns (c :: (w ++ Char.ofNat 32 :: r)) = match wordsSigns (w ++ Char.ofNat 32 :: r) with | x :: xs => (c :: x) :: xs | [] => [[c]] := by
      conv => lhs; unfold wordsSigns
      split
      · rename_i h1; cases h1
      · rename_i h1; injection h1 with h2 _; exact absurd h2 h.1
      · rename_i h1; injection h1 with h2 h3; subst h2 h3; rfl
    rw [e, ih (by simpa using h.2)]
theorem make_of (P : Program) (c : List Char) (rest : List (List Char)) (h : behindMainWord (wordsSigns P.initOrder.toList) = c :: rest) : P.make =
  if c == "gc".toList || c == "spec".toList then some .whole else if c == "cut".toList || (c == "finals".toList && rest.head? == some "cut".toList) then some .cut else if c == "carried".toList then some .carried else if P.headLifts.isEmpty then none else some (.lifted P.headLifts) := by
  unfold Program.make
  rw [h]
theorem mayEnter_of (P : Program) (c : List Char) (rest : List (List Char)) (h : behindMainWord (wordsSigns P.initOrder.toList) = c :: rest) : P.mayEnter = (
    ((c == "gc".toList || c == "spec".toList) && (rest.isEmpty || rest.head? == some "stop".toList)) ||
    (c == "carried".toList && rest.take 2 == ["gc".toList, "cut".toList] && !P.laysLater && !P.bearsReflect) ||
    ((stripLifts liftWords (c :: rest)).2.head? == some "cut".toList &&
      ((stripLifts liftWords (c :: rest)).1.contains "finals" || !P.laysLater) && ((stripLifts liftWords (c :: rest)).1.contains "reflectrows" || !P.bearsReflect) &&
      ((stripLifts liftWords (c :: rest)).1.contains "reflectrows" || !(stripLifts liftWords (c :: rest)).1.contains "leanrows") &&
      P.doorFits (stripLifts liftWords (c :: rest)).1)) := by
  unfold Program.mayEnter
  rw [h]
def hw0 : List Char := [Char.ofNat 104, Char.ofNat 97, Char.ofNat 114, Char.ofNat 110, Char.ofNat 101, Char.ofNat 115, Char.ofNat 115]
def hw1 : List Char := [Char.ofNat 48, Char.ofNat 98, Char.ofNat 49, Char.ofNat 52, Char.ofNat 53, Char.ofNat 51, Char.ofNat 54, Char.ofNat 53, Char.ofNat 49, Char.ofNat 51, Char.ofNat 100, Char.ofNat 98, Char.ofNat 52, Char.ofNat 49, Char.ofNat 49, Char.ofNat 100, Char.ofNat 101, Char.ofNat 52, Char.ofNat 52, Char.ofNat 49, Char.ofNat 57, Char.ofNat 101, Char.ofNat 51, Char.ofNat 52, Char.ofNat 102, Char.ofNat 49, Char.ofNat 52, Char.ofNat 102, Char.ofNat 98, Char.ofNat 101, Char.ofNat 100, Char.ofNat 53, Char.ofNat 97, Char.ofNat 56, Char.ofNat 101, Char.ofNat 101, Char.ofNat 50, Char.ofNat 100, Char.ofNat 54, Char.ofNat 56, Char.ofNat 50, Char.ofNat 57, Char.ofNat 56, Char.ofNat 99, Char.ofNat 55, Char.ofNat 51, Char.ofNat 99, Char.ofNat 57, Char.ofNat 52, Char.ofNat 50, Char.ofNat 52, Char.ofNat 98, Char.ofNat 100, Char.ofNat 54, Char.ofNat 100, Char.ofNat 52, Char.ofNat 99, Char.ofNat 101, Char.ofNat 56, Char.ofNat 50, Char.ofNat 99, Char.ofNat 99, Char.ofNat 97, Char.ofNat 53]
def hw2 : List Char := [Char.ofNat 99, Char.ofNat 117, Char.ofNat 116]
def hrest : List Char := [Char.ofNat 97, Char.ofNat 116, Char.ofNat 32, Char.ofNat 109, Char.ofNat 111, Char.ofNat 111, Char.ofNat 116, Char.ofNat 98, Char.ofNat 101, Char.ofNat 108, Char.ofNat 108, Char.ofNat 47, Char.ofNat 109, Char.ofNat 111, Char.ofNat 111, Char.ofNat 116, Char.ofNat 108, Char.ofNat 97, Char.ofNat 119, Char.ofNat 52, Char.ofNat 46, Char.ofNat 76, Char.ofNat 111, Char.ofNat 103, Char.ofNat 82, Char.ofNat 101, Char.ofNat 102, Char.ofNat 117, Char.ofNat 115, Char.ofNat 101, Char.ofNat 115, Char.ofNat 32, Char.ofNat 109, Char.ofNat 111, Char.ofNat 111, Char.ofNat 116, Char.ofNat 98, Char.ofNat 101, Char.ofNat 108, Char.ofNat 108, Char.ofNat 47, Char.ofNat 109, Char.ofNat 111, Char.ofNat 111, Char.ofNat 116, Char.ofNat 108, Char.ofNat 97, Char.ofNat 119, Char.ofNat 51, Char.ofNat 46, Char.ofNat 76, Char.ofNat 111, Char.ofNat 103, Char.ofNat 83, Char.ofNat 116, Char.ofNat 111, Char.ofNat 112, Char.ofNat 115, Char.ofNat 32, Char.ofNat 109, Char.ofNat 111, Char.ofNat 111, Char.ofNat 116, Char.ofNat 98, Char.ofNat 101, Char.ofNat 108, Char.ofNat 108, Char.ofNat 47, Char.ofNat 109, Char.ofNat 111, Char.ofNat 111, Char.ofNat 116, Char.ofNat 108, Char.ofNat 97, Char.ofNat 119, Char.ofNat 49, Char.ofNat 46, Char.ofNat 67, Char.ofNat 108, Char.ofNat 111, Char.ofNat 99, Char.ofNat 107, Char.ofNat 84, Char.ofNat 101, Char.ofNat 108, Char.ofNat 108, Char.ofNat 115, Char.ofNat 32, Char.ofNat 109, Char.ofNat 111, Char.ofNat 111, Char.ofNat 116, Char.ofNat 98, Char.ofNat 101, Char.ofNat 108, Char.ofNat 108, Char.ofNat 47, Char.ofNat 109, Char.ofNat 111, Char.ofNat 111, Char.ofNat 116, Char.ofNat 108, Char.ofNat 97, Char.ofNat 119, Char.ofNat 51, Char.ofNat 46, Char.ofNat 76, Char.ofNat 111, Char.ofNat 103, Char.ofNat 75, Char.ofNat 101, Char.ofNat 101, Char.ofNat 112, Char.ofNat 115]
set_option maxRecDepth 100000 in
theorem init_lit : Tryd.prog.initOrder = String.ofList [Char.ofNat 104, Char.ofNat 97, Char.ofNat 114, Char.ofNat 110, Char.ofNat 101, Char.ofNat 115, Char.ofNat 115, Char.ofNat 32, Char.ofNat 48, Char.ofNat 98, Char.ofNat 49, Char.ofNat 52, Char.ofNat 53, Char.ofNat 51, Char.ofNat 54, Char.ofNat 53, Char.ofNat 49, Char.ofNat 51, Char.ofNat 100, Char.ofNat 98, Char.ofNat 52, Char.ofNat 49, Char.ofNat 49, Char.ofNat 100, Char.ofNat 101, Char.ofNat 52, Char.ofNat 52, Char.ofNat 49, Char.ofNat 57, Char.ofNat 101, Char.ofNat 51, Char.ofNat 52, Char.ofNat 102, Char.ofNat 49, Char.ofNat 52, Char.ofNat 102, Char.ofNat 98, Char.ofNat 101, Char.ofNat 100, Char.ofNat 53, Char.ofNat 97, Char.ofNat 56, Char.ofNat 101, Char.ofNat 101, Char.ofNat 50, Char.ofNat 100, Char.ofNat 54, Char.ofNat 56, Char.ofNat 50, Char.ofNat 57, Char.ofNat 56, Char.ofNat 99, Char.ofNat 55, Char.ofNat 51, Char.ofNat 99, Char.ofNat 57, Char.ofNat 52, Char.ofNat 50, Char.ofNat 52, Char.ofNat 98, Char.ofNat 100, Char.ofNat 54, Char.ofNat 100, Char.ofNat 52, Char.ofNat 99, Char.ofNat 101, Char.ofNat 56, Char.ofNat 50, Char.ofNat 99, Char.ofNat 99, Char.ofNat 97, Char.ofNat 53, Char.ofNat 32, Char.ofNat 99, Char.ofNat 117, Char.ofNat 116, Char.ofNat 32, Char.ofNat 97, Char.ofNat 116, Char.ofNat 32, Char.ofNat 109, Char.ofNat 111, Char.ofNat 111, Char.ofNat 116, Char.ofNat 98, Char.ofNat 101, Char.ofNat 108, Char.ofNat 108, Char.ofNat 47, Char.ofNat 109, Char.ofNat 111, Char.ofNat 111, Char.ofNat 116, Char.ofNat 108, Char.ofNat 97, Char.ofNat 119, Char.ofNat 52, Char.ofNat 46, Char.ofNat 76, Char.ofNat 111, Char.ofNat 103, Char.ofNat 82, Char.ofNat 101, Char.ofNat 102, Char.ofNat 117, Char.ofNat 115, Char.ofNat 101, Char.ofNat 115, Char.ofNat 32, Char.ofNat 109, Char.ofNat 111, Char.ofNat 111, Char.ofNat 116, Char.ofNat 98, Char.ofNat 101, Char.ofNat 108, Char.ofNat 108, Char.ofNat 47, Char.ofNat 109, Char.ofNat 111, Char.ofNat 111, Char.ofNat 116, Char.ofNat 108, Char.ofNat 97, Char.ofNat 119, Char.ofNat 51, Char.ofNat 46, Char.ofNat 76, Char.ofNat 111, Char.ofNat 103, Char.ofNat 83, Char.ofNat 116, Char.ofNat 111, Char.ofNat 112, Char.ofNat 115, Char.ofNat 32, Char.ofNat 109, Char.ofNat 111, Char.ofNat 111, Char.ofNat 116, Char.ofNat 98, Char.ofNat 101, Char.ofNat 108, Char.ofNat 108, Char.ofNat 47, Char.ofNat 109, Char.ofNat 111, Char.ofNat 111, Char.ofNat 116, Char.ofNat 108, Char.ofNat 97, Char.ofNat 119, Char.ofNat 49, Char.ofNat 46, Char.ofNat 67, Char.ofNat 108, Char.ofNat 111, Char.ofNat 99, Char.ofNat 107, Char.ofNat 84, Char.ofNat 101, Char.ofNat 108, Char.ofNat 108, Char.ofNat 115, Char.ofNat 32, Char.ofNat 109, Char.ofNat 111, Char.ofNat 111, Char.ofNat 116, Char.ofNat 98, Char.ofNat 101, Char.ofNat 108, Char.ofNat 108, Char.ofNat 47, Char.ofNat 109, Char.ofNat 111, Char.ofNat 111, Char.ofNat 116, Char.ofNat 108, Char.ofNat 97, Char.ofNat 119, Char.ofNat 51, Char.ofNat 46, Char.ofNat 76, Char.ofNat 111, Char.ofNat 103, Char.ofNat 75, Char.ofNat 101, Char.ofNat 101, Char.ofNat 112, Char.ofNat 115] := by kernel_rfl
set_option maxRecDepth 100000 in
theorem init_chars : Tryd.prog.initOrder.toList = [Char.ofNat 104, Char.ofNat 97, Char.ofNat 114, Char.ofNat 110, Char.ofNat 101, Char.ofNat 115, Char.ofNat 115, Char.ofNat 32, Char.ofNat 48, Char.ofNat 98, Char.ofNat 49, Char.ofNat 52, Char.ofNat 53, Char.ofNat 51, Char.ofNat 54, Char.ofNat 53, Char.ofNat 49, Char.ofNat 51, Char.ofNat 100, Char.ofNat 98, Char.ofNat 52, Char.ofNat 49, Char.ofNat 49, Char.ofNat 100, Char.ofNat 101, Char.ofNat 52, Char.ofNat 52, Char.ofNat 49, Char.ofNat 57, Char.ofNat 101, Char.ofNat 51, Char.ofNat 52, Char.ofNat 102, Char.ofNat 49, Char.ofNat 52, Char.ofNat 102, Char.ofNat 98, Char.ofNat 101, Char.ofNat 100, Char.ofNat 53, Char.ofNat 97, Char.ofNat 56, Char.ofNat 101, Char.ofNat 101, Char.ofNat 50, Char.ofNat 100, Char.ofNat 54, Char.ofNat 56, Char.ofNat 50, Char.ofNat 57, Char.ofNat 56, Char.ofNat 99, Char.ofNat 55, Char.ofNat 51, Char.ofNat 99, Char.ofNat 57, Char.ofNat 52, Char.ofNat 50, Char.ofNat 52, Char.ofNat 98, Char.ofNat 100, Char.ofNat 54, Char.ofNat 100, Char.ofNat 52, Char.ofNat 99, Char.ofNat 101, Char.ofNat 56, Char.ofNat 50, Char.ofNat 99, Char.ofNat 99, Char.ofNat 97, Char.ofNat 53, Char.ofNat 32, Char.ofNat 99, Char.ofNat 117, Char.ofNat 116, Char.ofNat 32, Char.ofNat 97, Char.ofNat 116, Char.ofNat 32, Char.ofNat 109, Char.ofNat 111, Char.ofNat 111, Char.ofNat 116, Char.ofNat 98, Char.ofNat 101, Char.ofNat 108, Char.ofNat 108, Char.ofNat 47, Char.ofNat 109, Char.ofNat 111, Char.ofNat 111, Char.ofNat 116, Char.ofNat 108, Char.ofNat 97, Char.ofNat 119, Char.ofNat 52, Char.ofNat 46, Char.ofNat 76, Char.ofNat 111, Char.ofNat 103, Char.ofNat 82, Char.ofNat 101, Char.ofNat 102, Char.ofNat 117, Char.ofNat 115, Char.ofNat 101, Char.ofNat 115, Char.ofNat 32, Char.ofNat 109, Char.ofNat 111, Char.ofNat 111, Char.ofNat 116, Char.ofNat 98, Char.ofNat 101, Char.ofNat 108, Char.ofNat 108, Char.ofNat 47, Char.ofNat 109, Char.ofNat 111, Char.ofNat 111, Char.ofNat 116, Char.ofNat 108, Char.ofNat 97, Char.ofNat 119, Char.ofNat 51, Char.ofNat 46, Char.ofNat 76, Char.ofNat 111, Char.ofNat 103, Char.ofNat 83, Char.ofNat 116, Char.ofNat 111, Char.ofNat 112, Char.ofNat 115, Char.ofNat 32, Char.ofNat 109, Char.ofNat 111, Char.ofNat 111, Char.ofNat 116, Char.ofNat 98, Char.ofNat 101, Char.ofNat 108, Char.ofNat 108, Char.ofNat 47, Char.ofNat 109, Char.ofNat 111, Char.ofNat 111, Char.ofNat 116, Char.ofNat 108, Char.ofNat 97, Char.ofNat 119, Char.ofNat 49, Char.ofNat 46, Char.ofNat 67, Char.ofNat 108, Char.ofNat 111, Char.ofNat 99, Char.ofNat 107, Char.ofNat 84, Char.ofNat 101, Char.ofNat 108, Char.ofNat 108, Char.ofNat 115, Char.ofNat 32, Char.ofNat 109, Char.ofNat 111, Char.ofNat 111, Char.ofNat 116, Char.ofNat 98, Char.ofNat 101, Char.ofNat 108, Char.ofNat 108, Char.ofNat 47, Char.ofNat 109, Char.ofNat 111, Char.ofNat 111, Char.ofNat 116, Char.ofNat 108, Char.ofNat 97, Char.ofNat 119, Char.ofNat 51, Char.ofNat 46, Char.ofNat 76, Char.ofNat 111, Char.ofNat 103, Char.ofNat 75, Char.ofNat 101, Char.ofNat 101, Char.ofNat 112, Char.ofNat 115] := by rw [init_lit, String.toList_ofList]
set_option maxRecDepth 100000 in
theorem init_split : [Char.ofNat 104, Char.ofNat 97, Char.ofNat 114, Char.ofNat 110, Char.ofNat 101, Char.ofNat 115, Char.ofNat 115, Char.ofNat 32, Char.ofNat 48, Char.ofNat 98, Char.ofNat 49, Char.ofNat 52, Char.ofNat 53, Char.ofNat 51, Char.ofNat 54, Char.ofNat 53, Char.ofNat 49, Char.ofNat 51, Char.ofNat 100, Char.ofNat 98, Char.ofNat 52, Char.ofNat 49, Char.ofNat 49, Char.ofNat 100, Char.ofNat 101, Char.ofNat 52, Char.ofNat 52, Char.ofNat 49, Char.ofNat 57, Char.ofNat 101, Char.ofNat 51, Char.ofNat 52, Char.ofNat 102, Char.ofNat 49, Char.ofNat 52, Char.ofNat 102, Char.ofNat 98, Char.ofNat 101, Char.ofNat 100, Char.ofNat 53, Char.ofNat 97, Char.ofNat 56, Char.ofNat 101, Char.ofNat 101, Char.ofNat 50, Char.ofNat 100, Char.ofNat 54, Char.ofNat 56, Char.ofNat 50, Char.ofNat 57, Char.ofNat 56, Char.ofNat 99, Char.ofNat 55, Char.ofNat 51, Char.ofNat 99, Char.ofNat 57, Char.ofNat 52, Char.ofNat 50, Char.ofNat 52, Char.ofNat 98, Char.ofNat 100, Char.ofNat 54, Char.ofNat 100, Char.ofNat 52, Char.ofNat 99, Char.ofNat 101, Char.ofNat 56, Char.ofNat 50, Char.ofNat 99, Char.ofNat 99, Char.ofNat 97, Char.ofNat 53, Char.ofNat 32, Char.ofNat 99, Char.ofNat 117, Char.ofNat 116, Char.ofNat 32, Char.ofNat 97, Char.ofNat 116, Char.ofNat 32, Char.ofNat 109, Char.ofNat 111, Char.ofNat 111, Char.ofNat 116, Char.ofNat 98, Char.ofNat 101, Char.ofNat 108, Char.ofNat 108, Char.ofNat 47, Char.ofNat 109, Char.ofNat 111, Char.ofNat 111, Char.ofNat 116, Char.ofNat 108, Char.ofNat 97, Char.ofNat 119, Char.ofNat 52, Char.ofNat 46, Char.ofNat 76, Char.ofNat 111, Char.ofNat 103, Char.ofNat 82, Char.ofNat 101, Char.ofNat 102, Char.ofNat 117, Char.ofNat 115, Char.ofNat 101, Char.ofNat 115, Char.ofNat 32, Char.ofNat 109, Char.ofNat 111, Char.ofNat 111, Char.ofNat 116, Char.ofNat 98, Char.ofNat 101, Char.ofNat 108, Char.ofNat 108, Char.ofNat 47, Char.ofNat 109, Char.ofNat 111, Char.ofNat 111, Char.ofNat 116, Char.ofNat 108, Char.ofNat 97, Char.ofNat 119, Char.ofNat 51, Char.ofNat 46, Char.ofNat 76, Char.ofNat 111, Char.ofNat 103, Char.ofNat 83, Char.ofNat 116, Char.ofNat 111, Char.ofNat 112, Char.ofNat 115, Char.ofNat 32, Char.ofNat 109, Char.ofNat 111, Char.ofNat 111, Char.ofNat 116, Char.ofNat 98, Char.ofNat 101, Char.ofNat 108, Char.ofNat 108, Char.ofNat 47, Char.ofNat 109, Char.ofNat 111, Char.ofNat 111, Char.ofNat 116, Char.ofNat 108, Char.ofNat 97, Char.ofNat 119, Char.ofNat 49, Char.ofNat 46, Char.ofNat 67, Char.ofNat 108, Char.ofNat 111, Char.ofNat 99, Char.ofNat 107, Char.ofNat 84, Char.ofNat 101, Char.ofNat 108, Char.ofNat 108, Char.ofNat 115, Char.ofNat 32, Char.ofNat 109, Char.ofNat 111, Char.ofNat 111, Char.ofNat 116, Char.ofNat 98, Char.ofNat 101, Char.ofNat 108, Char.ofNat 108, Char.ofNat 47, Char.ofNat 109, Char.ofNat 111, Char.ofNat 111, Char.ofNat 116, Char.ofNat 108, Char.ofNat 97, Char.ofNat 119, Char.ofNat 51, Char.ofNat 46, Char.ofNat 76, Char.ofNat 111, Char.ofNat 103, Char.ofNat 75, Char.ofNat 101, Char.ofNat 101, Char.ofNat 112, Char.ofNat 115] = hw0 ++ Char.ofNat 32 :: (hw1 ++ Char.ofNat 32 :: (hw2 ++ Char.ofNat 32 :: hrest)) := by kernel_rfl
theorem init_words : wordsSigns Tryd.prog.initOrder.toList = hw0 :: hw1 :: hw2 :: wordsSigns hrest := by
  rw [init_chars.trans init_split]
  rw [words_step hw0 _ (by kernel_rfl)]
  rw [words_step hw1 _ (by kernel_rfl)]
  rw [words_step hw2 _ (by kernel_rfl)]
theorem behind (rs : List (List Char)) : behindMainWord (hw0 :: hw1 :: hw2 :: rs) = hw2 :: rs := by kernel_rfl
theorem strip (rs : List (List Char)) : stripLifts liftWords (hw2 :: rs) = ([], hw2 :: rs) := by kernel_rfl
theorem laysLater : Tryd.prog.laysLater = false := by kernel_rfl
theorem bearsReflect : Tryd.prog.bearsReflect = false := by kernel_rfl
theorem doorFits : Tryd.prog.doorFits [] = true := by kernel_rfl
theorem headLifts : Tryd.prog.headLifts = [] := by
  unfold Program.headLifts; rw [init_words, behind, strip]; generalize wordsSigns hrest = rs; kernel_rfl
theorem mayEnter : Tryd.prog.mayEnter = true := by
  rw [mayEnter_of Tryd.prog _ _ (by rw [init_words, behind]), strip, laysLater, bearsReflect, doorFits]; generalize wordsSigns hrest = rs; kernel_rfl
theorem lifts_eq : Tryd.prog.liftsFinal = false := by
  unfold Program.liftsFinal; rw [init_words, behind, headLifts]; generalize wordsSigns hrest = rs; kernel_rfl
theorem make_eq : (Tryd.prog.make == some .cut) = true := by
  rw [make_of Tryd.prog _ _ (by rw [init_words, behind]), headLifts]; generalize wordsSigns hrest = rs; kernel_rfl
theorem laidOut : laidOutB Tryd.prog = true := by kernel_rfl
theorem mapsRowed : mapsRowed Tryd.prog = true := by kernel_rfl
theorem stops : (Tryd.prog.stops == []) = true := by kernel_rfl
theorem stopKnobs : (Tryd.prog.stopKnobs == []) = true := by kernel_rfl
theorem stopsHeard : Tryd.prog.stopsHeard = true := by kernel_rfl
theorem own : ownKnob Tryd.prog.godebug = none := by kernel_rfl
theorem and_mk {a b : Bool} (ha : a = true) (hb : b = true) : (a && b) = true := by rw [ha, hb]; rfl
end Go.Proofs.YtljlnhbndkdlcaaDoor.facts
/- The package-level variables that the log's rows list: errors.errorType, and three tables of the library that no walk reads; a world that meets them. -/
namespace Go.Proofs.YtljlnhbndkdlcaaDoor
set_option linter.unusedVariables false
set_option linter.unusedSimpArgs false
open Go.ChangeShapes Go.WideShapes Go.RowKit
def theLaid4 : List (String × DataW Unit) := [("math/bits.deBruijn32tab", Rows.laid_math_bits_deBruijn32tab), ("math/bits.deBruijn64tab", Rows.laid_math_bits_deBruijn64tab), ("internal/strconv.uint64pow10", Rows.laid_internal_strconv_uint64pow10), ("errors.errorType", Rows.laid_errors_errorType)]
def theData4 : List (String × DataW Unit) := [("math/bits.deBruijn32tab", Rows.laid_math_bits_deBruijn32tab), ("math/bits.deBruijn64tab", Rows.laid_math_bits_deBruijn64tab), ("internal/strconv.uint64pow10", Rows.laid_internal_strconv_uint64pow10)]
theorem handle_of_laid4 {W : World} (h : laidMetH Tryd.prog theLaid4 W) : As.Handle W := by
  have h' : laidMet Tryd.prog theData4 W ∧ handlesMet Tryd.prog [("errors.errorType", Rows.laid_errors_errorType)] W := h
  obtain ⟨name, u, ty, e1, e2, e3, e4, e5⟩ := h'.2 _ (List.mem_singleton.2 rfl)
  have en : name = [101, 114, 114, 111, 114] := (Option.some.inj e1).symm
  subst en
  obtain rfl := Option.some.inj (rtt.symm.trans e2)
  have hm : ty ∈ (List.range 189).filter fun t => Tryd.prog.rowNamed t [101, 114, 114, 111, 114] := List.mem_filter.2 ⟨List.mem_range.2 (by rw [← typesSize]; exact e3), e4⟩
  rw [oneRow] at hm
  obtain rfl := List.mem_singleton.1 hm
  have hh : typeHandle Tryd.prog 25 = .pointer (some ⟨5, 25, none⟩) := by kernel_rfl
  rw [hh] at e5
  unfold As.Handle
  simpa using World.var?_cell errt e5 0
def tab64 : Array Value := #[.int .u64 1, .int .u64 10, .int .u64 100, .int .u64 1000, .int .u64 10000, .int .u64 100000, .int .u64 1000000, .int .u64 10000000, .int .u64 100000000, .int .u64 1000000000, .int .u64 10000000000, .int .u64 100000000000, .int .u64 1000000000000, .int .u64 10000000000000, .int .u64 100000000000000, .int .u64 1000000000000000, .int .u64 10000000000000000, .int .u64 100000000000000000, .int .u64 1000000000000000000, .int .u64 10000000000000000000]
def db32 : Array Value := ([0, 1, 28, 2, 29, 14, 24, 3, 30, 22, 20, 15, 25, 17, 4, 8, 31, 27, 13, 23, 21, 19, 16, 7, 26, 12, 18, 6, 11, 5, 10, 9].map (Value.int .u8)).toArray
def db64 : Array Value := ([0, 1, 56, 2, 57, 49, 28, 3, 61, 58, 42, 50, 38, 29, 17, 4, 62, 47, 59, 36, 45, 43, 51, 22, 53, 39, 33, 30, 24, 18, 12, 5, 63, 55, 48, 27, 60, 41, 37, 16, 46, 35, 44, 21, 52, 32, 23, 11, 54, 26, 40, 15, 34, 20, 31, 10, 25, 14, 19, 9, 13, 8, 7, 6].map (Value.int .u8)).toArray
def laidWorld4 (P : Program) (os : Os) : World :=
  { laidWorld P os with heap := (((laidWorld P os).heap.setIfInBounds 2 (.cells tab64 155 (0, 0))).setIfInBounds 3 (.cells db32 159 (0, 0))).setIfInBounds 4 (.cells db64 160 (0, 0)) }
theorem laidWorld4_met (os : Os) (args : Array Value) : laidMetH Tryd.prog theLaid4 ((laidWorld4 Tryd.prog os).forCall (fun _ _ => 0) ⟨#[], args, []⟩).memory :=
  laidMetH_of_parts (laidMet_of_run' 8 (by kernel_rfl) (by kernel_rfl)) (by kernel_rfl)
end Go.Proofs.YtljlnhbndkdlcaaDoor
