/- FlushLost, plainly: of two words of one who goes the one that another one heard is heard by all who stay. -/
import Derived.Test.YtdeeephdojflpaaDoorFlushSameP
namespace Go.Proofs.YtdeeephdojflpaaDoor
set_option linter.unusedVariables false
set_option linter.unusedSimpArgs false
open Go.RowKit Go.Maps
set_option linter.unusedSectionVars false
def fl1 (a : Int) : Fl := ⟨0, [0, 1, 2, 3], [a], [a], [((0, 3), [a])]⟩
def fl2 (a b : Int) : Fl := ⟨0, [0, 1, 2, 3], [a, b], [a, b], [((0, 3), [a, b])]⟩
def fl3 (a b : Int) : Fl := ⟨0, [0, 1, 2, 3], [a, b], [a, b], [((0, 3), [a, b]), ((0, 1), [b])]⟩
def fl4 (a b : Int) : Fl := ⟨1, [0, 1, 2], [a, b], [], [((0, 3), [a, b]), ((0, 1), [b]), ((0, 0), [b]), ((0, 2), [b])]⟩
section
variable {a b : Int} (ha : isWord a = true) (hb : isWord b = true) (hab : a ≠ b)
include ha
theorem fl_e1 : flSayErr (flNew 4) 3 a = 0 := by
  have h1 : isMember 3 = true := by decide
  have h2 : (flNew 4).has = [0, 1, 2, 3] := rfl
  have h3 : (flNew 4).all = [] := rfl
  unfold flSayErr flChk
  rw [h2, h3, h1, ha]
  simp
theorem fl_s1 : flSay (flNew 4) 3 a = fl1 a := by
  unfold flSay
  rw [if_pos (fl_e1 ha)]
  rfl
include hb hab
theorem fl_e2 : flSayErr (fl1 a) 3 b = 0 := by
  have h1 : isMember 3 = true := by decide
  unfold flSayErr flChk
  rw [h1, hb]
  simp [fl1, Ne.symm hab]
theorem fl_s2 : flSay (fl1 a) 3 b = fl2 a b := by
  unfold flSay
  rw [if_pos (fl_e2 ha hb hab)]
  simp [flHear, flRow, fl1, fl2, mget, mput, setPut, Ne.symm hab]
theorem fl_e3 : flGiveErr (fl2 a b) 1 b = 0 := by
  have h1 : isMember 1 = true := by decide
  unfold flGiveErr flChk
  rw [h1, hb]
  simp [fl2, flHas, flRow, mget]
theorem fl_s3 : flGive (fl2 a b) 1 b = fl3 a b := by
  unfold flGive
  rw [if_pos (fl_e3 ha hb hab)]
  simp [flHear, flRow, fl2, fl3, mget, mput]
omit ha hb hab in
theorem fl_e4 : flNextErr (fl3 a b) [0, 1, 2] = 0 := by
  show nextErr 0 [0, 1, 2, 3] [0, 1, 2] = 0
  decide
omit ha hb in
theorem fl_s4 : flChange (fl3 a b) [0, 1, 2] = fl4 a b := by
  unfold flChange
  rw [if_pos fl_e4]
  have hk : keepB [0, 1, 2] (fl3 a b).has = [0, 1, 2] := by show keepB [0, 1, 2] [0, 1, 2, 3] = _; decide
  rw [hk]
  have w1 : flWord [0, 1, 2] (fl3 a b) a = fl3 a b := by
    unfold flWord
    rw [if_neg]
    simp [fl3, flHas, flRow, mget, hab]
  have w2 : (flWord [0, 1, 2] (fl3 a b) b).heard = [((0, 3), [a, b]), ((0, 1), [b]), ((0, 0), [b]), ((0, 2), [b])] := by
    unfold flWord
    rw [if_pos (by simp [fl3, flHas, flRow, mget])]
    simp [flGiveAll, flStep, fl3, flHas, flHear, flRow, mget, mput]
  have hf : (flFlush (fl3 a b) [0, 1, 2] (fl3 a b).said).heard = [((0, 3), [a, b]), ((0, 1), [b]), ((0, 0), [b]), ((0, 2), [b])] := by
    show (flWord [0, 1, 2] (flWord [0, 1, 2] (fl3 a b) a) b).heard = _
    rw [w1, w2]
  rw [hf]
  rfl
omit ha hb hab
theorem fl_e5 : flSayErr (fl4 a b) 3 1 = 8 := by
  have h1 : isMember 3 = true := by decide
  have h2 : isWord 1 = true := by decide
  unfold flSayErr flChk
  rw [h1, h2]
  simp [fl4]
theorem fl_he (m : Int) (hm : 0 ≤ m ∧ m < 5) : flHeardErr (fl4 a b) m 0 = 0 := by
  unfold flHeardErr
  rw [if_neg (by simp [isMember]; omega), if_neg (by omega), if_neg (by show ¬ (1 : Int) < 0; omega)]
theorem fl_h3 (m : Int) (hm : 0 ≤ m ∧ m < 3) : flHeard (fl4 a b) m 0 = [b] := by
  unfold flHeard
  rw [if_pos (fl_he m (by omega))]
  rcases (show m = 0 ∨ m = 1 ∨ m = 2 by omega) with rfl | rfl | rfl <;> simp [flRow, fl4, mget]
theorem fl_h4 : flHeard (fl4 a b) 3 0 = [a, b] := by
  unfold flHeard
  rw [if_pos (fl_he 3 (by omega))]
  simp [flRow, fl4, mget]
end
end Go.Proofs.YtdeeephdojflpaaDoor
